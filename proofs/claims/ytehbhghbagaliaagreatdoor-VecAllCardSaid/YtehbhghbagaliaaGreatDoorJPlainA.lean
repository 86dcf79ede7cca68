/- Plain arithmetic of lists of digits, the lowest first: no program in sight. And: Plain arithmetic of package nat: what each loop keeps. No program in sight. Plain arithmetic: bits, noughts at the low end, greatest common divisors by shifts. Plain arithmetic of quotients: a guessed digit is put right. No program in sight. Plain arithmetic of package bits: no program in sight. Plain arithmetic of package nat: products digit by digit; quotients by one digit; shifts. No program in sight. Plain arithmetic of package nat: shifts. No program in sight. The guess of a digit of a long quotient is right, or one too great. Plain arithmetic of a long quotient's digit: what each loop of step keeps. No program in sight. Plain arithmetic of a long quotient: what Div's loop over the digits keeps. No program in sight. -/
set_option linter.unusedVariables false
set_option linter.unusedSimpArgs false
namespace Vic
theorem getD_app_left (a b:List Nat) (i:Nat) (h:i<a.length):(a ++ b).getD i 0=a.getD i 0:=by
 simp only[List.getD_eq_getElem?_getD,List.getElem?_append_left h]
theorem getD_app_right (a b:List Nat) (i:Nat) (h:a.length≤i):(a ++ b).getD i 0=b.getD (i - a.length) 0:=by
 simp only[List.getD_eq_getElem?_getD,List.getElem?_append_right h]
def val (B:Nat):List Nat→Nat
 | []=>0
 | d :: ds=>d+B*val B ds
theorem val_nil (B:Nat):val B []=0:=rfl
theorem val_cons (B d:Nat) (ds:List Nat):val B (d :: ds)=d+B*val B ds:=rfl
theorem val_append (B:Nat) (a b:List Nat):val B (a ++ b)=val B a+B ^ a.length*val B b:=by
 induction a with
 | nil=>simp[val]
 | cons d ds ih=>
   simp only[List.cons_append,val,ih,List.length_cons,Nat.pow_succ]
   rw[Nat.mul_add,← Nat.mul_assoc,Nat.mul_comm B (B ^ ds.length)]
   omega
theorem val_snoc (B:Nat) (a:List Nat) (d:Nat):val B (a ++ [d])=val B a+B ^ a.length*d:=by
 rw[val_append];simp[val]
def dig (B:Nat) (l:List Nat):Prop:=∀ d∈l,d<B
theorem dig_nil (B:Nat):dig B []:=by intro d h;cases h
theorem dig_cons {B d:Nat}{l:List Nat}:dig B (d :: l)↔d<B∧dig B l:=by simp[dig]
theorem dig_append {B:Nat}{a b:List Nat}:dig B (a ++ b)↔dig B a∧dig B b:=by
 simp only[dig,List.mem_append]
 exact ⟨fun h=>⟨fun d hd=>h d (.inl hd),fun d hd=>h d (.inr hd)⟩,fun h d hd=>hd.elim (h.1 d) (h.2 d)⟩
theorem dig_take {B:Nat}{l:List Nat}(h:dig B l) (k:Nat):dig B (l.take k):=fun d hd=>h d (List.mem_of_mem_take hd)
theorem dig_drop {B:Nat}{l:List Nat}(h:dig B l) (k:Nat):dig B (l.drop k):=fun d hd=>h d (List.mem_of_mem_drop hd)
theorem dig_getD {B:Nat}{l:List Nat}(h:dig B l) (hB:0<B) (i:Nat):l.getD i 0<B:=by
 rw[List.getD_eq_getElem?_getD]
 cases hi:l[i]? with
 | none=>simpa using hB
 | some d=>simpa using h d (List.mem_of_getElem? hi)
theorem val_lt {B:Nat}(hB:0<B) {l:List Nat}(h:dig B l):val B l<B ^ l.length:=by
 induction l with
 | nil=>simp[val]
 | cons d ds ih=>
   obtain ⟨h1,h2⟩:=dig_cons.1 h
   have:=ih h2
   simp only[val,List.length_cons,Nat.pow_succ]
   have h3:B*(val B ds+1)≤B*B ^ ds.length:=Nat.mul_le_mul_left _ this
   rw[Nat.mul_add]at h3
   rw[Nat.mul_comm (B ^ ds.length) B]
   omega
def digs (B:Nat) (n:Nat):List Nat:=
 if h:n=0∨B≤1 then []else n % B :: digs B (n / B)
termination_by n
decreasing_by
 simp only[not_or]at h
 exact Nat.div_lt_self (Nat.pos_of_ne_zero h.1) (by omega)
theorem digs_zero (B:Nat):digs B 0 = []:=by unfold digs;simp
theorem digs_pos {B n:Nat}(hB:1<B) (hn:n≠0):digs B n=n % B :: digs B (n / B):=by
 rw[digs];rw[dif_neg (by omega)]
theorem digs_dig {B:Nat}(hB:1<B) (n:Nat):dig B (digs B n):=by
 induction n using Nat.strongRecOn with
 | _ n ih=>
   by_cases hn:n=0
   ·subst hn;rw[digs_zero];exact dig_nil B
   ·rw[digs_pos hB hn,dig_cons]
    exact ⟨Nat.mod_lt _ (by omega),ih _ (Nat.div_lt_self (by omega) hB)⟩
theorem val_digs {B:Nat}(hB:1<B) (n:Nat):val B (digs B n)=n:=by
 induction n using Nat.strongRecOn with
 | _ n ih=>
   by_cases hn:n=0
   ·subst hn;rw[digs_zero];rfl
   ·rw[digs_pos hB hn,val_cons,ih _ (Nat.div_lt_self (by omega) hB)]
    have:=Nat.div_add_mod n B
    omega
theorem digs_eq_nil {B n:Nat}(hB:1<B):digs B n = []↔n=0:=by
 constructor
 ·intro h;have:=val_digs hB n;rw[h]at this;simpa [val]using this.symm
 ·rintro rfl;exact digs_zero B
def norm (l:List Nat):Prop:=l.getLast?≠some 0
theorem norm_nil:norm []:=by simp[norm]
theorem norm_cons {d:Nat}{l:List Nat}(h:l≠[]):norm (d :: l)↔norm l:=by
 unfold norm
 rw[List.getLast?_cons]
 cases hl:l.getLast? with
 | none=>simp[List.getLast?_eq_none_iff]at hl;exact absurd hl h
 | some x=>simp
theorem digs_norm {B:Nat}(hB:1<B) (n:Nat):norm (digs B n):=by
 induction n using Nat.strongRecOn with
 | _ n ih=>
   by_cases hn:n=0
   ·subst hn;rw[digs_zero];exact norm_nil
   ·rw[digs_pos hB hn]
    by_cases h0:n / B=0
    ·rw[h0,digs_zero]
     have:n % B=n:=Nat.mod_eq_of_lt (by
      rcases Nat.lt_or_ge n B with h|h
      ·exact h
      ·have:=Nat.div_pos h (by omega);omega)
     simp[norm,this,hn]
    ·rw[norm_cons (by rw[Ne,digs_eq_nil hB];exact h0)]
     exact ih _ (Nat.div_lt_self (by omega) hB)
theorem digs_val {B:Nat}(hB:1<B) {l:List Nat}(hd:dig B l) (hn:norm l):digs B (val B l)=l:=by
 induction l with
 | nil=>exact digs_zero B
 | cons d ds ih=>
   obtain ⟨h1,h2⟩:=dig_cons.1 hd
   by_cases hds:ds = []
   ·subst hds
    have hd0:d≠0:=by simpa [norm]using hn
    have hv:val B [d]=d:=by simp[val]
    rw[hv,digs_pos hB hd0,Nat.mod_eq_of_lt h1,Nat.div_eq_of_lt h1,digs_zero]
   ·have hn':=(norm_cons hds).1 hn
    have ih':=ih h2 hn'
    have hne:val B (d :: ds)≠0:=by
     intro h
     simp only[val]at h
     have hz:val B ds=0:=by
      have:B*val B ds=0:=by omega
      rcases Nat.mul_eq_zero.1 this with h|h
      ·omega
      ·exact h
     rw[hz,digs_zero]at ih'
     exact hds ih'.symm
    rw[digs_pos hB hne,val_cons]
    have e1:(d+B*val B ds) % B=d:=by rw[Nat.add_mul_mod_self_left];exact Nat.mod_eq_of_lt h1
    have e2:(d+B*val B ds) / B=val B ds:=by
     rw[Nat.add_mul_div_left _ _ (by omega)];rw[Nat.div_eq_of_lt h1];omega
    rw[e1,e2,ih']
def trimd (l:List Nat):List Nat:=(l.reverse.dropWhile (· == 0)).reverse
theorem trimd_snoc_zero (l:List Nat):trimd (l ++ [0])=trimd l:=by simp[trimd,List.dropWhile]
theorem trimd_snoc {d:Nat}(l:List Nat) (h:d≠0):trimd (l ++ [d])=l ++ [d]:=by
 simp[trimd,List.dropWhile,h]
theorem trimd_nil:trimd [] = []:=rfl
theorem trimd_of_norm {l:List Nat}(h:norm l):trimd l=l:=by
 rcases List.eq_nil_or_concat l with rfl|⟨m,d,rfl⟩
 ·rfl
 ·simp only[List.concat_eq_append]at h ⊢
  exact trimd_snoc m (by simpa [norm]using h)
theorem trimd_norm (l:List Nat):norm (trimd l):=by
 induction hl:l.length generalizing l with
 | zero=>have:l = []:=List.length_eq_zero_iff.1 hl;subst this;exact norm_nil
 | succ n ih=>
   rcases List.eq_nil_or_concat l with rfl|⟨m,d,rfl⟩
   ·exact norm_nil
   ·simp only[List.concat_eq_append]at hl ⊢
    by_cases hd:d=0
    ·subst hd;rw[trimd_snoc_zero];exact ih m (by simpa using hl)
    ·rw[trimd_snoc m hd];simpa [norm]using hd
theorem val_trimd (B:Nat) (l:List Nat):val B (trimd l)=val B l:=by
 induction hl:l.length generalizing l with
 | zero=>have:l = []:=List.length_eq_zero_iff.1 hl;subst this;rfl
 | succ n ih=>
   rcases List.eq_nil_or_concat l with rfl|⟨m,d,rfl⟩
   ·rfl
   ·simp only[List.concat_eq_append]at hl ⊢
    by_cases hd:d=0
    ·subst hd;rw[trimd_snoc_zero,val_snoc,ih m (by simpa using hl)];simp
    ·rw[trimd_snoc m hd]
theorem dig_trimd {B:Nat}{l:List Nat}(h:dig B l):dig B (trimd l):=by
 intro d hd
 unfold trimd at hd
 rw[List.mem_reverse]at hd
 exact h d (by simpa using (List.dropWhile_sublist _).subset hd)
theorem trimd_eq_digs {B:Nat}(hB:1<B) {l:List Nat}(h:dig B l):trimd l=digs B (val B l):=by
 rw[← val_trimd B l]
 exact (digs_val hB (dig_trimd h) (trimd_norm l)).symm
theorem trimd_take (l:List Nat) (k:Nat) (hk:k≤l.length) (h0:∀ i,k≤i→i<l.length→l.getD i 0=0) (hk0:k=0∨l.getD (k - 1) 0≠0) :
 trimd l=l.take k:=by
 induction hn:l.length - k generalizing l with
 | zero=>
   have hkl:k=l.length:=by omega
   rw[List.take_of_length_le (by omega)]
   refine trimd_of_norm ?_
   rcases List.eq_nil_or_concat l with rfl|⟨m,d,rfl⟩
   ·exact norm_nil
   ·simp only[List.concat_eq_append]at *
    simp only[List.length_append,List.length_cons,List.length_nil]at hkl
    subst hkl
    rcases hk0 with h|h
    ·omega
    ·simpa [norm]using h
 | succ n ih=>
   rcases List.eq_nil_or_concat l with rfl|⟨m,d,rfl⟩
   ·simp at hn
   ·simp only[List.concat_eq_append,List.length_append,List.length_cons,List.length_nil]at *
    have hd:d=0:=by
     have:=h0 m.length (by omega) (by omega)
     simpa using this
    subst hd
    have hkm:k≤m.length:=by omega
    rw[trimd_snoc_zero,List.take_append_of_le_length hkm]
    refine ih m hkm (fun i h1 h2=>?_) ?_ (by omega)
    ·have:=h0 i h1 (by omega)
     rwa [getD_app_left _ _ _ h2]at this
    ·rcases hk0 with h|h
     ·exact .inl h
     ·by_cases hk':k=0
      ·exact .inl hk'
      ·right;rwa [getD_app_left _ _ _ (by omega)]at h
theorem digs_length_le {B:Nat}(hB:1<B) {n k:Nat}(h:n<B ^ k):(digs B n).length≤k:=by
 induction k generalizing n with
 | zero=>have:n=0:=by simpa using h
         subst this;rw[digs_zero];simp
 | succ k ih=>
   by_cases hn:n=0
   ·subst hn;rw[digs_zero];simp
   ·rw[digs_pos hB hn]
    have:=ih (n:=n / B) (by
     rw[Nat.div_lt_iff_lt_mul (by omega)];rwa [Nat.pow_succ]at h)
    simp;omega
theorem lt_pow_digs_length {B:Nat}(hB:1<B) (n:Nat):n<B ^ (digs B n).length:=by
 have:=val_lt (by omega:0<B) (digs_dig hB n)
 rwa [val_digs hB]at this
theorem pow_le_of_digs_length {B:Nat}(hB:1<B) {n k:Nat}(h:k<(digs B n).length):B ^ k≤n:=by
 rcases Nat.lt_or_ge n (B ^ k)with h'|h'
 ·have:=digs_length_le hB h';omega
 ·exact h'
theorem digs_getD {B:Nat}(hB:1<B) (n i:Nat):(digs B n).getD i 0=n / B ^ i % B:=by
 induction i generalizing n with
 | zero=>
   by_cases hn:n=0
   ·subst hn;simp[digs_zero]
   ·rw[digs_pos hB hn];simp
 | succ i ih=>
   by_cases hn:n=0
   ·subst hn;simp[digs_zero]
   ·rw[digs_pos hB hn,List.getD_cons_succ,ih,Nat.pow_succ,Nat.mul_comm,Nat.div_div_eq_div_mul]
theorem val_take (B:Nat) (hB:0<B) (l:List Nat) (hd:dig B l) (k:Nat):val B (l.take k)=val B l % B ^ k:=by
 by_cases h:k≤l.length
 ·have e:val B l=val B (l.take k)+B ^ k*val B (l.drop k):=by
   have:=val_append B (l.take k) (l.drop k)
   rw[List.take_append_drop,List.length_take,Nat.min_eq_left h]at this
   exact this
  have h2:=val_lt hB (dig_take hd k)
  rw[List.length_take,Nat.min_eq_left h]at h2
  rw[e,Nat.add_mul_mod_self_left,Nat.mod_eq_of_lt h2]
 ·have h1:=val_lt hB hd
  rw[List.take_of_length_le (by omega)]
  rw[Nat.mod_eq_of_lt]
  exact Nat.lt_of_lt_of_le h1 (Nat.pow_le_pow_right hB (by omega))
theorem val_drop (B:Nat) (hB:0<B) (l:List Nat) (hd:dig B l) (k:Nat):val B (l.drop k)=val B l / B ^ k:=by
 by_cases h:k≤l.length
 ·have e:val B l=val B (l.take k)+B ^ k*val B (l.drop k):=by
   have:=val_append B (l.take k) (l.drop k)
   rw[List.take_append_drop,List.length_take,Nat.min_eq_left h]at this
   exact this
  have h2:=val_lt hB (dig_take hd k)
  rw[List.length_take,Nat.min_eq_left h]at h2
  rw[e,Nat.add_mul_div_left _ _ (Nat.pow_pos hB),Nat.div_eq_of_lt h2];omega
 ·have h1:=val_lt hB hd
  rw[List.drop_of_length_le (by omega)]
  rw[Nat.div_eq_of_lt]
  ·rfl
  ·exact Nat.lt_of_lt_of_le h1 (Nat.pow_le_pow_right hB (by omega))
end Vic
set_option linter.unusedVariables false
set_option linter.unusedSimpArgs false
namespace Vic
theorem getD_drop (l:List Nat) (i j:Nat):(l.drop i).getD j 0=l.getD (i+j) 0:=by simp[List.getD_eq_getElem?_getD]
theorem getD_take (l:List Nat) (i j:Nat) (h:j<i):(l.take i).getD j 0=l.getD j 0:=by
 simp[List.getD_eq_getElem?_getD,List.getElem?_take,h]
theorem getD_big (l:List Nat) (i:Nat) (h:l.length≤i):l.getD i 0=0:=by
 rw[List.getD_eq_getElem?_getD,List.getElem?_eq_none h];rfl
theorem val_drop_step (B:Nat) (l:List Nat) (i:Nat):val B (l.drop i)=l.getD i 0+B*val B (l.drop (i+1)):=by
 by_cases h:i<l.length
 ·rw[List.drop_eq_getElem_cons h,val_cons,List.getD_eq_getElem?_getD,List.getElem?_eq_getElem h];rfl
 ·rw[List.drop_of_length_le (by omega),List.drop_of_length_le (by omega),getD_big l i (by omega)];rfl
theorem val_take_step (B:Nat) (l:List Nat) (i:Nat):val B (l.take (i+1))=val B (l.take i)+B ^ i*l.getD i 0:=by
 by_cases h:i<l.length
 ·rw[List.take_succ_eq_append_getElem h,val_append,List.length_take,Nat.min_eq_left (by omega),List.getD_eq_getElem?_getD,List.getElem?_eq_getElem h];simp[val]
 ·rw[List.take_of_length_le (by omega),List.take_of_length_le (by omega),getD_big l i (by omega)];simp
theorem val_split (B:Nat) (l:List Nat) (i:Nat):val B l=val B (l.take i)+B ^ i*val B (l.drop i):=by
 by_cases h:i≤l.length
 ·have:=val_append B (l.take i) (l.drop i)
  rwa [List.take_append_drop,List.length_take,Nat.min_eq_left h]at this
 ·rw[List.take_of_length_le (by omega),List.drop_of_length_le (by omega)];simp[val]
theorem val_take_lt {B:Nat}(hB:0<B) {l:List Nat}(h:dig B l) (i:Nat):val B (l.take i)<B ^ i:=by
 have h1:=val_lt hB (dig_take h i)
 exact Nat.lt_of_lt_of_le h1 (Nat.pow_le_pow_right hB (by rw[List.length_take];omega))
theorem val_take_all (B:Nat) (l:List Nat) (i:Nat) (h:l.length≤i):val B (l.take i)=val B l:=by rw[List.take_of_length_le h]
theorem lt_of_drop_lt {B:Nat}(hB:0<B) {a b:List Nat}(ha:dig B a) (i:Nat) (h:val B (a.drop i)<val B (b.drop i)):val B a<val B b:=by
 rw[val_split B a i,val_split B b i]
 have h1:=val_take_lt hB ha i
 have h2:B ^ i*(val B (a.drop i)+1)≤B ^ i*val B (b.drop i):=Nat.mul_le_mul_left _ h
 rw[Nat.mul_add]at h2
 omega
theorem lt_of_digit {B:Nat}(hB:0<B) {a b:List Nat}(ha:dig B a) (i:Nat) (he:val B (a.drop (i+1))=val B (b.drop (i+1))) (h:a.getD i 0<b.getD i 0):val B a<val B b:=by
 refine lt_of_drop_lt hB ha i ?_
 rw[val_drop_step B a i,val_drop_step B b i,he];omega
def cmpI (a b:Nat):Int:=if a<b then -1 else if b<a then 1 else 0
theorem cmpI_lt {a b:Nat}(h:a<b):cmpI a b=-1:=by unfold cmpI;rw[if_pos h]
theorem cmpI_gt {a b:Nat}(h:b<a):cmpI a b=1:=by unfold cmpI;rw[if_neg (by omega),if_pos h]
theorem cmpI_eq {a b:Nat}(h:a=b):cmpI a b=0:=by unfold cmpI;rw[if_neg (by omega),if_neg (by omega)]
theorem set_getD_same (o:List Nat) (k d:Nat) (h:k<o.length):(o.set k d).getD k 0=d:=by
 simp[List.getD_eq_getElem?_getD,h]
theorem set_getD_other (o:List Nat) (k d j:Nat) (h:j≠k):(o.set k d).getD j 0=o.getD j 0:=by
 simp[List.getD_eq_getElem?_getD,List.getElem?_set_ne (Ne.symm h)]
theorem take_set (o:List Nat) (k d:Nat):(o.set k d).take k=o.take k:=by
 rw[List.take_set];exact List.set_eq_of_length_le (by rw[List.length_take];omega)
theorem dig_set {B:Nat}{o:List Nat}(h:dig B o) {d:Nat}(hd:d<B) (k:Nat):dig B (o.set k d):=fun x hx=>by
 rcases List.mem_or_eq_of_mem_set hx with h1|h1
 ·exact h x h1
 ·exact h1▸hd
theorem dig_replicate {B:Nat}(hB:0<B) (n:Nat):dig B (List.replicate n 0):=fun d hd=>by
 rw[List.mem_replicate]at hd;omega
theorem val_take_set (B:Nat) (o:List Nat) (k d:Nat) (h:k<o.length):val B ((o.set k d).take (k+1))=val B (o.take k)+B ^ k*d:=by
 rw[val_take_step,take_set,set_getD_same o k d h]
structure AddInv (B:Nat) (a b o:List Nat) (n k s:Nat):Prop where
 len:o.length=n
 dg:dig B o
 sum:val B (o.take k)+B ^ k*s=val B (a.take k)+val B (b.take k)
 small:s≤1
theorem AddInv.start {B:Nat}(hB:1<B) (a b:List Nat) (n:Nat):AddInv B a b (List.replicate n 0) n 0 0:=
 ⟨by simp,dig_replicate (by omega) n,by simp[val],by omega⟩
theorem AddInv.step {B:Nat}{a b o:List Nat}{n k s:Nat}(h:AddInv B a b o n k s) (hB:1<B) (ha:dig B a) (hb:dig B b) (hk:k<n) :
 AddInv B a b (o.set k ((s+(a.getD k 0+b.getD k 0)) % B)) n (k+1) ((s+(a.getD k 0+b.getD k 0)) / B):=by
 have h1:=dig_getD ha (by omega) k
 have h2:=dig_getD hb (by omega) k
 refine ⟨by simp[h.len],dig_set h.dg (Nat.mod_lt _ (by omega)) k,?_,?_⟩
 ·rw[val_take_set B o k _ (by rw[h.len];exact hk),val_take_step,val_take_step,Nat.pow_succ,Nat.mul_assoc]
  have e:=Nat.mod_add_div (s+(a.getD k 0+b.getD k 0)) B
  have e2:B ^ k*((s+(a.getD k 0+b.getD k 0)) % B)+B ^ k*(B*((s+(a.getD k 0+b.getD k 0)) / B))=B ^ k*s+(B ^ k*a.getD k 0+B ^ k*b.getD k 0):=by
   rw[← Nat.mul_add,e,Nat.mul_add,Nat.mul_add]
  have:=h.sum
  omega
 ·have h3:=h.small
  have:(s+(a.getD k 0+b.getD k 0)) / B<2:=by rw[Nat.div_lt_iff_lt_mul (by omega)];omega
  omega
theorem AddInv.done {B:Nat}{a b o:List Nat}{n s:Nat}(h:AddInv B a b o n n s) (hB:1<B) (ha:dig B a) (hb:dig B b) (hn:max a.length b.length+1=n) :
 val B o=val B a+val B b:=by
 have e:=h.sum
 rw[val_take_all B o n (by rw[h.len];exact Nat.le_refl _),val_take_all B a n (by omega),val_take_all B b n (by omega)]at e
 have h1:val B a<B ^ max a.length b.length:=Nat.lt_of_lt_of_le (val_lt (by omega) ha) (Nat.pow_le_pow_right (by omega) (by omega))
 have h2:val B b<B ^ max a.length b.length:=Nat.lt_of_lt_of_le (val_lt (by omega) hb) (Nat.pow_le_pow_right (by omega) (by omega))
 have h3:2*B ^ max a.length b.length≤B ^ n:=by
  rw[← hn,Nat.pow_succ,Nat.mul_comm];exact Nat.mul_le_mul_left _ hB
 rcases Nat.eq_zero_or_pos s with h0|h0
 ·subst h0;omega
 ·have:B ^ n*1≤B ^ n*s:=Nat.mul_le_mul_left _ h0
  omega
theorem digs_length_mono {B a b:Nat}(hB:1<B) (h:a≤b):(digs B a).length≤(digs B b).length:=
 digs_length_le hB (Nat.lt_of_le_of_lt h (lt_pow_digs_length hB b))
structure LessInv (B:Nat) (a b o:List Nat) (n k:Nat) (r:Int):Prop where
 len:o.length=n
 dg:dig B o
 sum:(val B (o.take k):Int)+(B:Int) ^ k*r=(val B (a.take k):Int) - (val B (b.take k):Int)
 small:r=0∨r=-1
theorem LessInv.start {B:Nat}(hB:1<B) (a b:List Nat) (n:Nat):LessInv B a b (List.replicate n 0) n 0 0:=
 ⟨by simp,dig_replicate (by omega) n,by simp[val],.inl rfl⟩
theorem LessInv.step {B:Nat}{a b o:List Nat}{n k:Nat}{r:Int}(h:LessInv B a b o n k r) (hB:1<B) (ha:dig B a) (hb:dig B b) (hk:k<n) :
 LessInv B a b (o.set k ((r+((a.getD k 0:Int) - (b.getD k 0:Int))) % (B:Int)).toNat) n (k+1) ((r+((a.getD k 0:Int) - (b.getD k 0:Int))) / (B:Int)):=by
 have h1:=dig_getD ha (by omega) k
 have h2:=dig_getD hb (by omega) k
 have hp:(0:Int)<(B:Int):=by omega
 have m1:=Int.emod_nonneg (r+((a.getD k 0:Int) - (b.getD k 0:Int))) (show (B:Int)≠0 by omega)
 have m2:=Int.emod_lt_of_pos (r+((a.getD k 0:Int) - (b.getD k 0:Int))) hp
 have e:=Int.emod_add_mul_ediv (r+((a.getD k 0:Int) - (b.getD k 0:Int))) (B:Int)
 refine ⟨by simp[h.len],dig_set h.dg (by omega) k,?_,?_⟩
 ·rw[val_take_set B o k _ (by rw[h.len];exact hk),val_take_step,val_take_step]
  generalize hq:(r+((a.getD k 0:Int) - (b.getD k 0:Int))) / (B:Int)=q at *
  generalize hm:(r+((a.getD k 0:Int) - (b.getD k 0:Int))) % (B:Int)=m at *
  simp only[Int.natCast_add,Int.natCast_mul,Int.natCast_pow,Int.toNat_of_nonneg m1]
  have hs:=h.sum
  rw[Int.pow_succ,Int.mul_assoc]
  have e2:(B:Int) ^ k*m+(B:Int) ^ k*((B:Int)*q)=(B:Int) ^ k*r+((B:Int) ^ k*(a.getD k 0:Int) - (B:Int) ^ k*(b.getD k 0:Int)):=by
   rw[← Int.mul_add,e,Int.mul_add,Int.mul_sub]
  omega
 ·have h3:=h.small
  have q1 : -1≤(r+((a.getD k 0:Int) - (b.getD k 0:Int))) / (B:Int):=by
   rw[Int.le_ediv_iff_mul_le hp];omega
  have q2:(r+((a.getD k 0:Int) - (b.getD k 0:Int))) / (B:Int)<1:=by
   rw[Int.ediv_lt_iff_lt_mul hp];omega
  omega
theorem LessInv.done {B:Nat}{a b o:List Nat}{r:Int}(h:LessInv B a b o a.length a.length r) (hB:1<B) (ha:dig B a) (hb:dig B b) (hle:val B b≤val B a) (hbl:b.length≤a.length) :
 val B o=val B a - val B b:=by
 have e:=h.sum
 rw[val_take_all B o _ (by rw[h.len];exact Nat.le_refl _),val_take_all B a _ (Nat.le_refl _),val_take_all B b _ hbl]at e
 have h0:=val_lt (by omega) h.dg
 rw[h.len]at h0
 rcases h.small with h1|h1
 ·subst h1;simp at e;omega
 ·subst h1
  have:((B ^ a.length:Nat):Int)=(B:Int) ^ a.length:=by simp
  omega
end Vic
set_option linter.unusedVariables false
namespace Vic
def blen (n:Nat):Nat:=if n=0 then 0 else n.log2+1
theorem blen_zero:blen 0=0:=rfl
theorem lt_two_blen (n:Nat):n<2 ^ blen n:=by
 unfold blen
 split
 ·omega
 ·rename_i h;exact Nat.lt_log2_self
theorem two_le_blen {n:Nat}(h:n≠0):2 ^ (blen n - 1)≤n:=by
 unfold blen
 rw[if_neg h,Nat.add_sub_cancel]
 exact Nat.log2_self_le h
theorem blen_le {n k:Nat}(h:n<2 ^ k):blen n≤k:=by
 unfold blen
 split
 ·omega
 ·rename_i h0;exact (Nat.log2_lt h0).2 h
theorem lt_blen {n k:Nat}(h:2 ^ k≤n):k<blen n:=by
 have:=lt_two_blen n
 rcases Nat.lt_or_ge k (blen n)with h1|h1
 ·exact h1
 ·have:=Nat.pow_le_pow_right (n:=2) (by omega) h1
  omega
theorem blen_unique {n k:Nat}(h1:2 ^ k≤n) (h2:n<2 ^ (k+1)):blen n=k+1:=by
 have:=lt_blen h1;have:=blen_le h2;omega
theorem blen_pos {n:Nat}(h:n≠0):0<blen n:=by unfold blen;rw[if_neg h];omega
theorem blen_eq_zero {n:Nat}:blen n=0↔n=0:=by
 constructor
 ·intro h;rcases Nat.eq_zero_or_pos n with h0|h0
  ·exact h0
  ·have:=blen_pos (n:=n) (by omega);omega
 ·rintro rfl;rfl
theorem blen_shift {n k d:Nat}(hd:d≠0) (hn:n<2 ^ k):blen (n+2 ^ k*d)=k+blen d:=by
 have h1:=two_le_blen hd
 have h2:=lt_two_blen d
 have hp:=blen_pos hd
 have e:k+blen d=(k+(blen d - 1))+1:=by omega
 rw[e]
 apply blen_unique
 ·rw[Nat.pow_add]
  have:=Nat.mul_le_mul_left (2 ^ k) h1
  omega
 ·have e2:k+(blen d - 1)+1=k+blen d:=by omega
  rw[e2,Nat.pow_add]
  have:2 ^ k*(d+1)≤2 ^ k*2 ^ blen d:=Nat.mul_le_mul_left _ h2
  rw[Nat.mul_add]at this
  omega
def tz (n:Nat):Nat:=if h:n=0∨n % 2=1 then 0 else tz (n / 2)+1
termination_by n
decreasing_by simp only[not_or]at h;omega
theorem tz_zero:tz 0=0:=by unfold tz;simp
theorem tz_odd {n:Nat}(h:n % 2=1):tz n=0:=by unfold tz;simp[h]
theorem tz_even {n:Nat}(h0:n≠0) (h:n % 2=0):tz n=tz (n / 2)+1:=by
 rw[tz];rw[dif_neg (by omega)]
theorem tz_spec {n:Nat}(h:n≠0):∃ m,n=2 ^ tz n*m∧m % 2=1:=by
 induction n using Nat.strongRecOn with
 | _ n ih=>
   by_cases h1:n % 2=1
   ·rw[tz_odd h1];exact ⟨n,by simp,h1⟩
   ·rw[tz_even h (by omega)]
    obtain ⟨m,hm,ho⟩:=ih (n / 2) (by omega) (by omega)
    refine ⟨m,?_,ho⟩
    rw[Nat.pow_succ,Nat.mul_comm _ 2,Nat.mul_assoc,← hm];omega
theorem tz_of {n k m:Nat}(h:n=2 ^ k*m) (hm:m % 2=1):tz n=k:=by
 subst h
 induction k with
 | zero=>simp;exact tz_odd hm
 | succ k ih=>
   have h0:2 ^ (k+1)*m≠0:=by
    have:0<2 ^ (k+1):=Nat.two_pow_pos _
    exact Nat.mul_ne_zero (by omega) (by omega)
   have e:2 ^ (k+1)*m=2*(2 ^ k*m):=by rw[Nat.pow_succ,Nat.mul_comm (2 ^ k) 2,Nat.mul_assoc]
   rw[tz_even h0 (by rw[e];omega),e,Nat.mul_div_cancel_left _ (by omega),ih]
def odd (n:Nat):Nat:=n / 2 ^ tz n
theorem odd_zero:odd 0=0:=by simp[odd]
theorem odd_mul (n:Nat):n=2 ^ tz n*odd n:=by
 by_cases h:n=0
 ·subst h;simp[odd]
 ·obtain ⟨m,hm,_⟩:=tz_spec h
  have:odd n=m:=by
   unfold odd
   conv=>lhs;arg 1;rw[hm]
   exact Nat.mul_div_cancel_left _ (Nat.two_pow_pos _)
  rw[this];exact hm
theorem odd_odd {n:Nat}(h:n≠0):odd n % 2=1:=by
 obtain ⟨m,hm,ho⟩:=tz_spec h
 have:odd n=m:=by
  unfold odd
  conv=>lhs;arg 1;rw[hm]
  exact Nat.mul_div_cancel_left _ (Nat.two_pow_pos _)
 rw[this];exact ho
theorem odd_le (n:Nat):odd n≤n:=Nat.div_le_self _ _
theorem odd_pos {n:Nat}(h:n≠0):0<odd n:=by have:=odd_odd h;omega
theorem coprime_two_pow {b:Nat}(hb:b % 2=1) (k:Nat):Nat.Coprime (2 ^ k) b:=by
 refine Nat.Coprime.pow_left k ?_
 rw[Nat.Coprime,Nat.gcd_rec,hb];rfl
theorem gcd_odd_left {a b:Nat}(hb:b % 2=1):Nat.gcd (odd a) b=Nat.gcd a b:=by
 conv=>rhs;rw[odd_mul a]
 exact (Nat.Coprime.gcd_mul_left_cancel _ (coprime_two_pow hb _)).symm
theorem gcd_round {a b:Nat}(h:b≤a) (hb:b % 2=1):Nat.gcd (odd (a - b)) b=Nat.gcd a b:=by
 rw[gcd_odd_left hb]
 have e:a=(a - b)+b:=by omega
 conv=>rhs;rw[e]
 exact (Nat.gcd_add_self_left _ _).symm
theorem gcd_odd_odd {a b:Nat}(ha:a≠0) (hb:b≠0):Nat.gcd a b=Nat.gcd (odd a) (odd b)*2 ^ min (tz a) (tz b):=by
 have h1:=odd_mul a
 have h2:=odd_mul b
 have o1:=odd_odd ha
 have o2:=odd_odd hb
 generalize odd a=x at *
 generalize odd b=y at *
 generalize tz a=i at *
 generalize tz b=j at *
 rw[h1,h2]
 rcases Nat.le_total i j with h|h
 ·obtain ⟨k,rfl⟩:=Nat.le.dest h
  rw[Nat.min_eq_left h,Nat.pow_add,Nat.mul_assoc,Nat.gcd_mul_left,Nat.mul_comm]
  congr 1
  rw[Nat.gcd_comm,Nat.gcd_comm x]
  exact Nat.Coprime.gcd_mul_left_cancel _ (coprime_two_pow o1 _)
 ·obtain ⟨k,rfl⟩:=Nat.le.dest h
  rw[Nat.min_eq_right h,Nat.pow_add,Nat.mul_assoc,Nat.gcd_mul_left,Nat.mul_comm]
  congr 1
  exact Nat.Coprime.gcd_mul_left_cancel _ (coprime_two_pow o2 _)
theorem gcd_step (a b:Nat):Nat.gcd b (a % b)=Nat.gcd a b:=by
 rw[Nat.gcd_comm a b,Nat.gcd_rec b a,Nat.gcd_comm]
end Vic
set_option linter.unusedVariables false
namespace Vic
theorem guess_ge {H u next yh yl:Nat}(hn:next<H) (hyh:0<yh) (x:Nat) (h:x*(yh*H+yl)≤u*H+next):x≤u / yh:=by
 rw[Nat.le_div_iff_mul_le hyh]
 rcases Nat.lt_or_ge u (x*yh)with h1|h1
 ·exfalso
  have h2:(u+1)*H≤x*yh*H:=Nat.mul_le_mul_right _ h1
  rw[Nat.mul_add,← Nat.mul_assoc]at h
  rw[Nat.add_mul]at h2
  omega
 ·exact h1
theorem guess_big {H u next y q:Nat}(hn:next<H) (hu:u<y) (hq:H≤q) (x:Nat) (hx:x≤q) (h:x*y≤u*H+next):x≤q - 1:=by
 rcases Nat.lt_or_ge x q with h1|h1
 ·omega
 ·exfalso
  have:H*y≤x*y:=Nat.mul_le_mul_right _ (by omega)
  have h2:(u+1)*H≤y*H:=Nat.mul_le_mul_right _ hu
  rw[Nat.add_mul]at h2
  rw[Nat.mul_comm y H]at h2
  omega
theorem guess_over {H u next yh yl q r:Nat}(hqr:q*yh+r=u) (ho:r*H+next<q*yl) (x:Nat) (hx:x≤q)
 (h:x*(yh*H+yl)≤u*H+next):x≤q - 1:=by
 rcases Nat.lt_or_ge x q with h1|h1
 ·omega
 ·exfalso
  have e:x=q:=by omega
  subst e
  rw[Nat.mul_add,← Nat.mul_assoc,← hqr,Nat.add_mul]at h
  omega
theorem guess_end {H u next yh yl q r:Nat}(hy:0<yh*H+yl) (hqr:q*yh+r=u) (ho:q*yl≤r*H+next)
 (hq:∀ x,x*(yh*H+yl)≤u*H+next→x≤q):(u*H+next) / (yh*H+yl)=q:=by
 refine Nat.le_antisymm (hq _ (Nat.div_mul_le_self _ _)) ?_
 rw[Nat.le_div_iff_mul_le hy]
 rw[Nat.mul_add,← Nat.mul_assoc,← hqr,Nat.add_mul]
 omega
theorem guess_far {H next yl q r:Nat}(hr:H≤r) (hq:q≤H) (hl:yl<H):q*yl≤r*H+next:=by
 have h1:q*yl≤H*H:=Nat.mul_le_mul hq (by omega)
 have h2:H*H≤r*H:=Nat.mul_le_mul_right _ hr
 omega
theorem guess_first {H u yh yl:Nat}(hyl:yl<H) (hu:u<yh*H+yl) (hh:H≤2*yh):u / yh≤H+1:=by
 have hyh:0<yh:=by
  rcases Nat.eq_zero_or_pos yh with h|h
  ·subst h;omega
  ·exact h
 have h:u / yh<H+2:=by
  rw[Nat.div_lt_iff_lt_mul hyh,Nat.add_mul,Nat.mul_comm H yh]
  omega
 omega
theorem rest_wrap {N y W:Nat}(hy:0<y) (hW:y≤W):(N - N / y*y) % W=N % y:=by
 have h:=Nat.div_add_mod N y
 have h2:=Nat.mod_lt N hy
 rw[Nat.mul_comm]at h
 have:N - N / y*y=N % y:=by omega
 rw[this]
 exact Nat.mod_eq_of_lt (by omega)
theorem div_two {H u a b y:Nat}(hb:b<H) (hy:0<y) :
 ((u*H+a) / y)*H+((u*H+a) % y*H+b) / y=((u*H+a)*H+b) / y∧((u*H+a) % y*H+b) % y=((u*H+a)*H+b) % y:=by
 generalize hN:u*H+a=N
 have h:=Nat.div_add_mod N y
 have e:N*H+b=(N % y*H+b)+y*(N / y*H):=by
  conv=>lhs;rw[← h]
  rw[Nat.add_mul,Nat.mul_assoc];omega
 constructor
 ·rw[e,Nat.add_mul_div_left _ _ hy];omega
 ·rw[e,Nat.add_mul_mod_self_left]
theorem scale_div {N y s:Nat}(hs:0<s):(N*s) / (y*s)=N / y∧(N*s) % (y*s)=N % y*s:=by
 constructor
 ·exact Nat.mul_div_mul_right _ _ hs
 ·exact Nat.mul_mod_mul_right _ _ _
end Vic
set_option linter.unusedVariables false
set_option linter.unusedSimpArgs false
namespace Vic
theorem mul_halves (a b c d:Nat) (ha:a<4294967296) (hb:b<4294967296) (hc:c<4294967296) (hd:d<4294967296) :
 b*d<18446744073709551616∧a*d+b*d / 4294967296<18446744073709551616∧b*c+(a*d+b*d / 4294967296) % 4294967296<18446744073709551616 ∧
 a*c+(a*d+b*d / 4294967296) / 4294967296+(b*c+(a*d+b*d / 4294967296) % 4294967296) / 4294967296=(a*4294967296+b)*(c*4294967296+d) / 18446744073709551616 ∧
 (b*c+(a*d+b*d / 4294967296) % 4294967296) % 4294967296*4294967296+b*d % 4294967296=(a*4294967296+b)*(c*4294967296+d) % 18446744073709551616 ∧
 a*c+(a*d+b*d / 4294967296) / 4294967296+(b*c+(a*d+b*d / 4294967296) % 4294967296) / 4294967296<18446744073709551616:=by
 have h1:b*d≤4294967295*4294967295:=Nat.mul_le_mul (by omega) (by omega)
 have h2:a*d≤4294967295*4294967295:=Nat.mul_le_mul (by omega) (by omega)
 have h3:b*c≤4294967295*4294967295:=Nat.mul_le_mul (by omega) (by omega)
 have h4:a*c≤4294967295*4294967295:=Nat.mul_le_mul (by omega) (by omega)
 have e:(a*4294967296+b)*(c*4294967296+d)=a*c*18446744073709551616+a*d*4294967296+b*c*4294967296+b*d:=by
  rw[Nat.add_mul,Nat.mul_add,Nat.mul_add]
  have e1:a*4294967296*(c*4294967296)=a*c*18446744073709551616:=by
   rw[Nat.mul_mul_mul_comm]
  have e2:a*4294967296*d=a*d*4294967296:=by rw[Nat.mul_right_comm]
  have e3:b*(c*4294967296)=b*c*4294967296:=by rw[Nat.mul_assoc]
  omega
 rw[e]
 generalize a*c=ac at *;generalize a*d=ad at *;generalize b*c=bc at *;generalize b*d=bd at *
 omega
theorem mul_words (x y:Nat) (hx:x<18446744073709551616) (hy:y<18446744073709551616) :
 ((x / 4294967296*(y / 4294967296) % 18446744073709551616+(x / 4294967296*(y % 4294967296) % 18446744073709551616+x % 4294967296*(y % 4294967296) % 18446744073709551616 / 4294967296) % 18446744073709551616 / 4294967296) % 18446744073709551616 +
   (x % 4294967296*(y / 4294967296) % 18446744073709551616+(x / 4294967296*(y % 4294967296) % 18446744073709551616+x % 4294967296*(y % 4294967296) % 18446744073709551616 / 4294967296) % 18446744073709551616 % 4294967296) % 18446744073709551616 / 4294967296) % 18446744073709551616=x*y / 18446744073709551616 ∧
 (x % 4294967296*(y / 4294967296) % 18446744073709551616+(x / 4294967296*(y % 4294967296) % 18446744073709551616+x % 4294967296*(y % 4294967296) % 18446744073709551616 / 4294967296) % 18446744073709551616 % 4294967296) % 18446744073709551616*4294967296 % 18446744073709551616 +
  x % 4294967296*(y % 4294967296) % 18446744073709551616 % 4294967296=x*y % 18446744073709551616:=by
 have ha:x / 4294967296<4294967296:=by omega
 have hb:x % 4294967296<4294967296:=by omega
 have hc:y / 4294967296<4294967296:=by omega
 have hd:y % 4294967296<4294967296:=by omega
 have ex:=Nat.div_add_mod' x 4294967296
 have ey:=Nat.div_add_mod' y 4294967296
 have h:=mul_halves (x / 4294967296) (x % 4294967296) (y / 4294967296) (y % 4294967296) ha hb hc hd
 have h4:x / 4294967296*(y / 4294967296)≤4294967295*4294967295:=Nat.mul_le_mul (by omega) (by omega)
 have h2:x / 4294967296*(y % 4294967296)≤4294967295*4294967295:=Nat.mul_le_mul (by omega) (by omega)
 have h3:x % 4294967296*(y / 4294967296)≤4294967295*4294967295:=Nat.mul_le_mul (by omega) (by omega)
 rw[ex,ey]at h
 obtain ⟨i1,i2,i3,i4,i5,i6⟩:=h
 rw[← i4,← i5]
 clear i4 i5 ex ey
 generalize x / 4294967296=a at *
 generalize x % 4294967296=b at *
 generalize y / 4294967296=c at *
 generalize y % 4294967296=d at *
 generalize a*c=ac at *;generalize a*d=ad at *;generalize b*c=bc at *;generalize b*d=bd at *
 omega
def LenInv (x0 x n b:Nat):Prop:=x=x0 / 2 ^ n∧x<(if b=0 then 2 else 2 ^ (2*b))∧(n=0∨x≠0)∧n+2*b≤64
theorem LenInv.start {x:Nat}(h:x<18446744073709551616):LenInv x x 0 32:=⟨by simp,by simpa using h,.inl rfl,by omega⟩
theorem LenInv.up {x0 x n b:Nat}(h:LenInv x0 x n b) (hb:b=1∨b % 2=0) (hb0:0<b) (hx:x / 2 ^ b≠0):LenInv x0 (x / 2 ^ b) (n+b) (b / 2):=by
 obtain ⟨h1,h2,h3,h4⟩:=h
 rw[if_neg (by omega)]at h2
 refine ⟨?_,?_,.inr hx,by omega⟩
 ·rw[h1,Nat.div_div_eq_div_mul,Nat.pow_add]
 ·rw[Nat.div_lt_iff_lt_mul (Nat.two_pow_pos _)]
  rw[show 2*b=b+b by omega,Nat.pow_add]at h2
  rcases hb with hb|hb
  ·subst hb;simpa using h2
  ·rw[if_neg (by omega),show 2*(b / 2)=b by omega];exact h2
theorem LenInv.stay {x0 x n b:Nat}(h:LenInv x0 x n b) (hb:b=1∨b % 2=0) (hb0:0<b) (hx:x / 2 ^ b=0):LenInv x0 x n (b / 2):=by
 obtain ⟨h1,h2,h3,h4⟩:=h
 refine ⟨h1,?_,h3,by omega⟩
 have hlt:x<2 ^ b:=by
  rcases Nat.lt_or_ge x (2 ^ b)with h|h
  ·exact h
  ·have:=Nat.div_pos h (Nat.two_pow_pos b);omega
 rcases hb with hb|hb
 ·subst hb;simpa using hlt
 ·rw[if_neg (by omega),show 2*(b / 2)=b by omega];exact hlt
theorem LenInv.up' {x0 x n b p c:Nat}(h:LenInv x0 x n b) (hp:p=2 ^ b) (hc:c=b / 2) (hb:b=1∨b % 2=0) (hb0:0<b) (hx:(((x:Nat):Int) / (p:Int) != 0)=true):LenInv x0 (x / p) (n+b) c:=by
 subst hp;subst hc
 refine h.up hb hb0 (fun e=>?_)
 have e2:((x:Nat):Int) / ((2 ^ b:Nat):Int)=((x / 2 ^ b:Nat):Int):=(Int.natCast_ediv _ _).symm
 rw[e2,e]at hx
 simp at hx
theorem LenInv.stay' {x0 x n b p c:Nat}(h:LenInv x0 x n b) (hp:p=2 ^ b) (hc:c=b / 2) (hb:b=1∨b % 2=0) (hb0:0<b) (hx:(((x:Nat):Int) / (p:Int) != 0)=false):LenInv x0 x n c:=by
 subst hp;subst hc
 refine h.stay hb hb0 ?_
 have e2:((x:Nat):Int) / ((2 ^ b:Nat):Int)=((x / 2 ^ b:Nat):Int):=(Int.natCast_ediv _ _).symm
 rw[e2]at hx
 have h3:=bne_eq_false_iff_eq.1 hx
 exact_mod_cast h3
theorem LenInv.done {x0 x n:Nat}(h:LenInv x0 x n 0):n+x=blen x0∧x<2:=by
 obtain ⟨h1,h2,h3,h4⟩:=h
 simp only[if_true]at h2
 refine ⟨?_,h2⟩
 rcases Nat.eq_zero_or_pos x with h0|h0
 ·have hn:n=0:=by omega
  subst hn
  simp at h1
  rw[← h1,h0];rfl
 ·have e:x=1:=by omega
  subst e
  rw[blen_unique (n:=x0) (k:=n)]
  ·have:=Nat.div_mul_le_self x0 (2 ^ n);rw[← h1]at this;omega
  ·have:=Nat.lt_mul_of_div_lt (a:=x0) (b:=2) (c:=2 ^ n) (by omega) (Nat.two_pow_pos _)
   rw[Nat.pow_succ];omega
theorem low_bit (x:Nat) (h0:x≠0) (hx:x<2 ^ 64):x &&& (2 ^ 64 - x)=2 ^ tz x:=by
 obtain ⟨m,hm,ho⟩:=tz_spec h0
 generalize tz x=k at *
 obtain ⟨j,rfl⟩:∃ j,m=2*j+1:=⟨m / 2,by omega⟩
 have hp:=Nat.two_pow_pos k
 have e1:x=2 ^ k*(2*j+1)+0:=by omega
 have e2:x - 1=2 ^ k*(2*j)+(2 ^ k - 1):=by rw[hm,Nat.mul_add];omega
 apply Nat.eq_of_testBit_eq
 intro i
 have e3:2 ^ 64 - x=2 ^ 64 - ((x - 1)+1):=by omega
 rw[Nat.testBit_and,e3,Nat.testBit_two_pow_sub_succ (by omega),e2,Nat.testBit_two_pow_mul_add _ (by omega)]
 conv=>lhs;arg 1;rw[e1]
 rw[Nat.testBit_two_pow_mul_add _ hp,Nat.testBit_two_pow]
 by_cases hi:i<k
 ·simp[hi];omega
 ·rw[if_neg hi,if_neg hi]
  by_cases hk:i=k
  ·subst hk
   have h64:i<64:=by
    rcases Nat.lt_or_ge i 64 with h|h
    ·exact h
    ·have h2:=Nat.pow_le_pow_right (n:=2) (by omega) h
     have h3:2 ^ i*1≤2 ^ i*(2*j+1):=Nat.mul_le_mul_left _ (by omega)
     omega
   simp[h64]
  ·obtain ⟨d,hd⟩:∃ d,i - k=d+1:=⟨i - k - 1,by omega⟩
   rw[hd,Nat.testBit_succ,Nat.testBit_succ]
   have a1:(2*j+1) / 2=j:=by omega
   have a2:2*j / 2=j:=by omega
   rw[a1,a2]
   have:¬ k=i:=fun e=>hk e.symm
   simp[this]
   cases j.testBit d<;>simp
theorem blen_two_pow (k:Nat):blen (2 ^ k)=k+1:=blen_unique (Nat.le_refl _) (by rw[Nat.pow_succ];have:=Nat.two_pow_pos k;omega)
theorem tz_lt {x:Nat}(h0:x≠0) {n:Nat}(hx:x<2 ^ n):tz x<n:=by
 obtain ⟨m,hm,ho⟩:=tz_spec h0
 rcases Nat.lt_or_ge (tz x) n with h|h
 ·exact h
 ·have h2:=Nat.pow_le_pow_right (n:=2) (by omega) h
  have h3:2 ^ tz x*1≤2 ^ tz x*m:=Nat.mul_le_mul_left _ (by omega)
  omega
theorem div_scaled (h l y b:Nat) (hb:blen y+b=64) (hy:y≠0) (hl:l<2 ^ 64) (hh:h<y) :
 y*2 ^ b<2 ^ 64∧2 ^ 63≤y*2 ^ b∧h*2 ^ b<2 ^ 64∧l / 2 ^ (64 - b)<2 ^ b∧h*2 ^ b+l / 2 ^ (64 - b)<y*2 ^ b ∧
 (h*2 ^ 64+l)*2 ^ b=(h*2 ^ b+l / 2 ^ (64 - b))*2 ^ 64+l*2 ^ b % 2 ^ 64:=by
 have h1:=two_le_blen hy
 have h2:=lt_two_blen y
 have hp:=blen_pos hy
 have hs:=Nat.two_pow_pos b
 have a1:y*2 ^ b<2 ^ 64:=by
  rw[← hb,Nat.pow_add];exact Nat.mul_lt_mul_of_pos_right h2 hs
 have a2:2 ^ 63≤y*2 ^ b:=by
  have e:63=(blen y - 1)+b:=by omega
  rw[e,Nat.pow_add];exact Nat.mul_le_mul_right _ h1
 have a3:h*2 ^ b<2 ^ 64:=by
  have:=Nat.mul_le_mul_right (2 ^ b) (Nat.le_of_lt hh);omega
 have e64:(2:Nat) ^ 64=2 ^ (64 - b)*2 ^ b:=by rw[← Nat.pow_add];congr 1;omega
 have hq:=Nat.two_pow_pos (64 - b)
 have a4:l / 2 ^ (64 - b)<2 ^ b:=by
  rw[Nat.div_lt_iff_lt_mul hq,Nat.mul_comm,← e64];exact hl
 have a6:(h*2 ^ 64+l)*2 ^ b=(h*2 ^ b+l / 2 ^ (64 - b))*2 ^ 64+l*2 ^ b % 2 ^ 64:=by
  have e2:l*2 ^ b / 2 ^ 64=l / 2 ^ (64 - b):=by rw[e64];exact Nat.mul_div_mul_right _ _ hs
  have e3:=Nat.div_add_mod (l*2 ^ b) (2 ^ 64)
  rw[e2]at e3
  rw[Nat.add_mul,Nat.add_mul,Nat.mul_right_comm h]
  generalize l / 2 ^ (64 - b)=A at *
  omega
 refine ⟨a1,a2,a3,a4,?_,a6⟩
 have b1:(h+1)*2 ^ b≤y*2 ^ b:=Nat.mul_le_mul_right _ hh
 rw[Nat.add_mul]at b1
 omega
theorem join_half (u k:Nat):(u*4294967296+k / 4294967296)*4294967296+k % 4294967296=u*2 ^ 64+k:=by omega
theorem div_words (h l y b u k:Nat) (hy:y≠0) (hk:k<2 ^ 64) (hu:u<y*2 ^ b) (hN:(h*2 ^ 64+l)*2 ^ b=u*2 ^ 64+k) :
 (u*4294967296+k / 4294967296) / (y*2 ^ b)<4294967296 ∧
 ((u*4294967296+k / 4294967296) % (y*2 ^ b)*4294967296+k % 4294967296) / (y*2 ^ b)<4294967296 ∧
 (u*4294967296+k / 4294967296) / (y*2 ^ b)*4294967296+((u*4294967296+k / 4294967296) % (y*2 ^ b)*4294967296+k % 4294967296) / (y*2 ^ b)=(h*2 ^ 64+l) / y ∧
 ((u*4294967296+k / 4294967296) % (y*2 ^ b)*4294967296+k % 4294967296) % (y*2 ^ b) / 2 ^ b=(h*2 ^ 64+l) % y:=by
 have hs:=Nat.two_pow_pos b
 have hY:0<y*2 ^ b:=Nat.mul_pos (by omega) hs
 have hc:k % 4294967296<4294967296:=Nat.mod_lt _ (by omega)
 have ha:k / 4294967296<4294967296:=by omega
 obtain ⟨d1,d2⟩:=div_two (u:=u) (a:=k / 4294967296) hc hY
 rw[join_half,← hN]at d1 d2
 obtain ⟨s1,s2⟩:=scale_div (N:=h*2 ^ 64+l) (y:=y) hs
 rw[s1]at d1
 rw[s2]at d2
 refine ⟨?_,?_,d1,?_⟩
 ·rw[Nat.div_lt_iff_lt_mul hY]
  have:(u+1)*4294967296≤y*2 ^ b*4294967296:=Nat.mul_le_mul_right _ hu
  rw[Nat.add_mul,Nat.one_mul]at this
  rw[Nat.mul_comm 4294967296]
  exact Nat.lt_of_lt_of_le (Nat.add_lt_add_left ha _) this
 ·rw[Nat.div_lt_iff_lt_mul hY]
  have h1:=Nat.mod_lt (u*4294967296+k / 4294967296) hY
  have:((u*4294967296+k / 4294967296) % (y*2 ^ b)+1)*4294967296≤y*2 ^ b*4294967296:=Nat.mul_le_mul_right _ h1
  rw[Nat.add_mul,Nat.one_mul]at this
  rw[Nat.mul_comm 4294967296 (y*2 ^ b)]
  exact Nat.lt_of_lt_of_le (Nat.add_lt_add_left hc _) this
 ·rw[d2];exact Nat.mul_div_cancel _ hs
def shlN (x:Nat) (n:Int):Nat:=if 64≤n∨n≤-64 then 0 else if n<0 then x / 2 ^ (-n).toNat else x*2 ^ n.toNat % 18446744073709551616
def shrN (x:Nat) (n:Int):Nat:=if 64≤n∨n≤-64 then 0 else if n<0 then x*2 ^ (-n).toNat % 18446744073709551616 else x / 2 ^ n.toNat
end Vic
set_option linter.unusedVariables false
set_option linter.unusedSimpArgs false
namespace Vic
theorem val_set {B:Nat}{o:List Nat}{j:Nat}(d:Nat) (h:j<o.length):val B (o.set j d)+B ^ j*o.getD j 0=val B o+B ^ j*d:=by
 rw[val_split B (o.set j d) (j+1),val_split B o (j+1),val_take_set B o j d h,val_take_step,List.drop_set,if_pos (by omega)]
 omega
structure MulIn (B:Nat) (b o o0:List Nat) (x i k s:Nat):Prop where
 len:o.length=o0.length
 dg:dig B o
 sum:val B o+B ^ (i+k)*s=val B o0+B ^ i*(x*val B (b.take k))
 small:s<B
 far:∀ j,i+k≤j→o.getD j 0=o0.getD j 0
theorem MulIn.start {B:Nat}{b o0:List Nat}(hB:1<B) (hd:dig B o0) (x i:Nat):MulIn B b o0 o0 x i 0 0:=
 ⟨rfl,hd,by simp[val],by omega,fun _ _=>rfl⟩
theorem mul_small {B x y s d:Nat}(hx:x<B) (hy:y<B) (hs:s<B) (hd:d<B):s+(x*y+d)<B*B:=by
 obtain ⟨c,rfl⟩:∃ c,B=c+1:=⟨B - 1,by omega⟩
 have h1:x*y≤c*c:=Nat.mul_le_mul (by omega) (by omega)
 have h2:(c+1)*(c+1)=c*c+c+c+1:=by rw[Nat.add_mul,Nat.mul_add];omega
 omega
theorem MulIn.step {B:Nat}{b o o0:List Nat}{x i k s:Nat}(h:MulIn B b o o0 x i k s) (hB:1<B) (hb:dig B b) (hx:x<B) (hk:i+k<o0.length) :
 MulIn B b (o.set (i+k) ((s+(x*b.getD k 0+o.getD (i+k) 0)) % B)) o0 x i (k+1) ((s+(x*b.getD k 0+o.getD (i+k) 0)) / B):=by
 have h1:=dig_getD hb (by omega) k
 have h2:=dig_getD h.dg (by omega) (i+k)
 have hs:=mul_small hx h1 h.small h2
 refine ⟨by simp[h.len],dig_set h.dg (Nat.mod_lt _ (by omega)) _,?_,?_,fun j hj=>?_⟩
 ·have e:=val_set (B:=B) (o:=o) (j:=i+k) ((s+(x*b.getD k 0+o.getD (i+k) 0)) % B) (by rw[h.len];exact hk)
  have e2:=Nat.mod_add_div (s+(x*b.getD k 0+o.getD (i+k) 0)) B
  have e3:B ^ (i+k)*((s+(x*b.getD k 0+o.getD (i+k) 0)) % B)+B ^ (i+k)*(B*((s+(x*b.getD k 0+o.getD (i+k) 0)) / B))=B ^ (i+k)*s+(B ^ (i+k)*(x*b.getD k 0)+B ^ (i+k)*o.getD (i+k) 0):=by
   rw[← Nat.mul_add,e2,Nat.mul_add,Nat.mul_add]
  have e4:B ^ (i+(k+1))=B ^ (i+k)*B:=by rw[← Nat.add_assoc,Nat.pow_succ]
  rw[e4,Nat.mul_assoc,val_take_step,Nat.mul_add,Nat.mul_add]
  have e5:B ^ i*(x*(B ^ k*b.getD k 0))=B ^ (i+k)*(x*b.getD k 0):=by
   rw[Nat.pow_add,Nat.mul_assoc,Nat.mul_left_comm x (B ^ k)]
  rw[e5]
  have:=h.sum
  omega
 ·rw[Nat.div_lt_iff_lt_mul (by omega)];exact hs
 ·rw[set_getD_other _ _ _ _ (by omega)];exact h.far j (by omega)
structure MulOut (B:Nat) (a b o:List Nat) (i:Nat):Prop where
 len:o.length=a.length+b.length
 dg:dig B o
 sum:val B o=val B (a.take i)*val B b
 far:∀ j,i+b.length≤j→o.getD j 0=0
theorem MulOut.start {B:Nat}(hB:1<B) (a b:List Nat):MulOut B a b (List.replicate (a.length+b.length) 0) 0:=by
 refine ⟨by simp,dig_replicate (by omega) _,?_,fun j hj=>?_⟩
 ·have h0:∀ n,val B (List.replicate n 0)=0:=fun n=>by
   induction n with
   | zero=>rfl
   | succ n ih=>rw[List.replicate_succ,val_cons,ih];simp
  rw[h0];simp[val]
 ·simp only[List.getD_eq_getElem?_getD,List.getElem?_replicate];split<;>rfl
theorem MulOut.step {B:Nat}{a b o0 o:List Nat}{i s:Nat}(h:MulOut B a b o0 i) (hB:1<B) (ha:dig B a) (hi:i<a.length) (hin:MulIn B b o o0 (a.getD i 0) i b.length s) :
 MulOut B a b (o.set (i+b.length) s) (i+1):=by
 have hl:o.length=a.length+b.length:=hin.len.trans h.len
 refine ⟨by simp[hl],dig_set hin.dg hin.small _,?_,fun j hj=>?_⟩
 ·have e:=val_set (B:=B) (o:=o) (j:=i+b.length) s (by omega)
  have e0:o.getD (i+b.length) 0=0:=by rw[hin.far _ (Nat.le_refl _)];exact h.far _ (Nat.le_refl _)
  rw[e0]at e
  have e2:=hin.sum
  rw[val_take_all B b _ (Nat.le_refl _),h.sum]at e2
  rw[val_take_step,Nat.add_mul,Nat.mul_assoc]
  omega
 ·rw[set_getD_other _ _ _ _ (by omega),hin.far j (by omega)];exact h.far j (by omega)
theorem MulOut.done {B:Nat}{a b o:List Nat}(h:MulOut B a b o a.length):val B o=val B a*val B b:=by
 rw[h.sum,val_take_all B a _ (Nat.le_refl _)]
structure ShortInv (B:Nat) (a o:List Nat) (y k r:Nat):Prop where
 len:o.length=a.length
 dg:dig B o
 sum:y*val B (o.drop k)+r=val B (a.drop k)
 small:r<y
theorem ShortInv.start {B:Nat}(hB:1<B) (a:List Nat) {y:Nat}(hy:0<y):ShortInv B a (List.replicate a.length 0) y a.length 0:=
 ⟨by simp,dig_replicate (by omega) _,by rw[List.drop_of_length_le (by simp),List.drop_of_length_le (Nat.le_refl _)];simp[val],hy⟩
theorem val_drop_set (B:Nat) (o:List Nat) (k d:Nat) (h:k<o.length):val B ((o.set k d).drop k)=d+B*val B (o.drop (k+1)):=by
 rw[val_drop_step,set_getD_same o k d h,List.drop_set,if_pos (by omega)]
theorem ShortInv.step {B:Nat}{a o:List Nat}{y k r:Nat}(h:ShortInv B a o y (k+1) r) (hB:1<B) (ha:dig B a) (hk:k<a.length) :
 (r*B+a.getD k 0) / y<B∧ShortInv B a (o.set k ((r*B+a.getD k 0) / y)) y k ((r*B+a.getD k 0) % y):=by
 have h1:=dig_getD ha (by omega) k
 have hr:=h.small
 have hq:(r*B+a.getD k 0) / y<B:=by
  rw[Nat.div_lt_iff_lt_mul (by omega)]
  have:(r+1)*B≤y*B:=Nat.mul_le_mul_right _ hr
  rw[Nat.add_mul]at this
  rw[Nat.mul_comm B y]
  omega
 refine ⟨hq,by simp[h.len],dig_set h.dg hq _,?_,Nat.mod_lt _ (by omega)⟩
 rw[val_drop_set B o k _ (by rw[h.len];exact hk),val_drop_step B a k,← h.sum]
 have e:=Nat.div_add_mod (r*B+a.getD k 0) y
 rw[Nat.mul_add,Nat.mul_add,← Nat.mul_assoc,← Nat.mul_assoc,Nat.mul_comm y B,Nat.mul_comm B r]
 omega
theorem ShortInv.done {B:Nat}{a o:List Nat}{y r:Nat}(h:ShortInv B a o y 0 r):val B o=val B a / y∧r=val B a % y:=by
 have e:=h.sum
 simp only[List.drop_zero]at e
 have hr:=h.small
 have h1:val B a / y=val B o:=by
  rw[← e,Nat.mul_add_div (by omega),Nat.div_eq_of_lt hr];omega
 have h2:val B a % y=r:=by rw[← e,Nat.mul_add_mod,Nat.mod_eq_of_lt hr]
 exact ⟨h1.symm,h2.symm⟩
theorem blen_digs (n:Nat) (h:n≠0) (k:Nat) (hk:(digs (2 ^ 32) n).length=k+1):blen n=32*k+blen ((digs (2 ^ 32) n).getD k 0):=by
 have hd:=digs_dig (B:=2 ^ 32) (by omega) n
 have hn:=digs_norm (B:=2 ^ 32) (by omega) n
 have hv:=val_digs (B:=2 ^ 32) (by omega) n
 generalize digs (2 ^ 32) n=l at *
 have hlast:l.getD k 0≠0:=by
  intro e
  apply hn
  rw[List.getLast?_eq_getElem?,hk,Nat.add_sub_cancel]
  rw[List.getD_eq_getElem?_getD,List.getElem?_eq_getElem (by omega)]at e
  rw[List.getElem?_eq_getElem (by omega)]
  simpa using e
 have e:val (2 ^ 32) (l.take k)+(2 ^ 32) ^ k*l.getD k 0=n:=by
  rw[← val_take_step,val_take_all _ _ _ (by omega),hv]
 have hlt:=val_take_lt (B:=2 ^ 32) (by omega) hd k
 rw[← Nat.pow_mul]at e hlt
 rw[← e]
 exact blen_shift hlast hlt
theorem tz_digit {l:List Nat}{k:Nat}(h0:val (2 ^ 32) (l.take k)=0) (hk:l.getD k 0≠0) (hd:dig (2 ^ 32) l):tz (val (2 ^ 32) l)=32*k+tz (l.getD k 0):=by
 rw[val_split _ l k,h0,val_drop_step]
 obtain ⟨m,hm,ho⟩:=tz_spec hk
 generalize hx:l.getD k 0=x at *
 have hlt:x<2 ^ 32:=by rw[← hx];exact dig_getD hd (by omega) k
 have ht:tz x<32:=by
  rcases Nat.lt_or_ge (tz x) 32 with h|h
  ·exact h
  ·have h2:=Nat.pow_le_pow_right (n:=2) (by omega) h
   have h3:2 ^ tz x*1≤2 ^ tz x*m:=Nat.mul_le_mul_left _ (by omega)
   omega
 refine tz_of (m:=m+2 ^ (32 - tz x)*val (2 ^ 32) (l.drop (k+1))) ?_ ?_
 ·rw[Nat.zero_add,← Nat.pow_mul,Nat.pow_add,Nat.mul_assoc]
  congr 1
  rw[Nat.mul_add,← hm,← Nat.mul_assoc,← Nat.pow_add]
  congr 3
  omega
 ·obtain ⟨d,hd2⟩:∃ d,32 - tz x=d+1:=⟨31 - tz x,by omega⟩
  rw[hd2,Nat.pow_succ,Nat.mul_comm (2 ^ d) 2,Nat.mul_assoc]
  omega
end Vic
set_option linter.unusedVariables false
set_option linter.unusedSimpArgs false
namespace Vic
structure UpInv (l o:List Nat) (q s i:Nat):Prop where
 len:o.length=l.length+q+1
 dg:dig (2 ^ 32) o
 sum:val (2 ^ 32) o=2 ^ s*((2 ^ 32) ^ q*val (2 ^ 32) (l.take i))
 small:o.getD (i+q) 0<2 ^ s
 far:∀ j,i+q<j→o.getD j 0=0
theorem val_zeros (B n:Nat):val B (List.replicate n 0)=0:=by
 induction n with
 | zero=>rfl
 | succ n ih=>rw[List.replicate_succ,val_cons,ih];simp
theorem getD_zeros (n j:Nat):(List.replicate n 0).getD j 0=0:=by
 simp only[List.getD_eq_getElem?_getD,List.getElem?_replicate];split<;>rfl
theorem UpInv.start (l:List Nat) (q s:Nat):UpInv l (List.replicate (l.length+q+1) 0) q s 0:=
 ⟨by simp,dig_replicate (by omega) _,by rw[val_zeros];simp[val],by rw[getD_zeros];exact Nat.two_pow_pos s,fun j _=>getD_zeros _ _⟩
theorem up_or {c y s:Nat}(hc:c<2 ^ s):c ||| (y*2 ^ s % 2 ^ 32)=c+y*2 ^ s % 2 ^ 32:=by
 by_cases hs:s≤32
 ·have e:y*2 ^ s % 2 ^ 32=2 ^ s*(y % 2 ^ (32 - s)):=by
   have:(2:Nat) ^ 32=2 ^ s*2 ^ (32 - s):=by rw[← Nat.pow_add];congr 1;omega
   rw[this,Nat.mul_comm y,Nat.mul_mod_mul_left]
  rw[e,Nat.or_comm,← Nat.two_pow_add_eq_or_of_lt hc];omega
 ·have e:y*2 ^ s % 2 ^ 32=0:=by
   have:(2:Nat) ^ s=2 ^ 32*2 ^ (s - 32):=by rw[← Nat.pow_add];congr 1;omega
   rw[this,Nat.mul_left_comm];exact Nat.mul_mod_right _ _
  rw[e];simp
theorem UpInv.step {l o:List Nat}{q s i:Nat}(h:UpInv l o q s i) (hs:s<32) (hl:dig (2 ^ 32) l) (hi:i<l.length) :
 o.getD (i+q) 0 ||| (l.getD i 0*2 ^ s % 2 ^ 32)<2 ^ 32∧l.getD i 0*2 ^ s / 2 ^ 32<2 ^ 32∧l.getD i 0*2 ^ s<2 ^ 64 ∧
 UpInv l ((o.set (i+q) (o.getD (i+q) 0 ||| (l.getD i 0*2 ^ s % 2 ^ 32))).set (i+q+1) (l.getD i 0*2 ^ s / 2 ^ 32)) q s (i+1):=by
 have hd:=dig_getD hl (by omega) i
 have hp:=Nat.two_pow_pos s
 have hp2:2 ^ s≤2 ^ 31:=Nat.pow_le_pow_right (by omega) (by omega)
 have hc:=h.small
 rw[up_or hc]
 generalize hdd:l.getD i 0=d at *
 generalize hcc:o.getD (i+q) 0=c at *
 have e32:(2:Nat) ^ 32=2 ^ (32 - s)*2 ^ s:=by rw[← Nat.pow_add];congr 1;omega
 have hy:d*2 ^ s<2 ^ 32*2 ^ s:=Nat.mul_lt_mul_of_pos_right hd hp
 have b2:d*2 ^ s / 2 ^ 32<2 ^ s:=by
  rw[Nat.div_lt_iff_lt_mul (by omega),Nat.mul_comm (2 ^ s)];exact hy
 have b1:c+d*2 ^ s % 2 ^ 32<2 ^ 32:=by
  have e:d*2 ^ s % 2 ^ 32=d % 2 ^ (32 - s)*2 ^ s:=by
   conv=>lhs;rw[e32]
   exact Nat.mul_mod_mul_right _ _ _
  have h1:d % 2 ^ (32 - s)+1≤2 ^ (32 - s):=Nat.mod_lt _ (Nat.two_pow_pos _)
  have h2:=Nat.mul_le_mul_right (2 ^ s) h1
  rw[← e32,Nat.add_mul,← e]at h2
  omega
 have b3:d*2 ^ s<2 ^ 64:=by
  have:=Nat.mul_le_mul_left (2 ^ 32) hp2
  omega
 refine ⟨b1,by omega,b3,by simp[h.len],dig_set (dig_set h.dg b1 _) (by omega) _,?_,?_,fun j hj=>?_⟩
 ·have e1:=val_set (B:=2 ^ 32) (o:=o) (j:=i+q) (c+d*2 ^ s % 2 ^ 32) (by rw[h.len];omega)
  have e2:=val_set (B:=2 ^ 32) (o:=o.set (i+q) (c+d*2 ^ s % 2 ^ 32)) (j:=i+q+1) (d*2 ^ s / 2 ^ 32) (by simp[h.len];omega)
  rw[set_getD_other _ _ _ _ (by omega),h.far _ (by omega)]at e2
  rw[hcc,Nat.mul_add]at e1
  have e3:=Nat.mod_add_div (d*2 ^ s) (2 ^ 32)
  have e4:(2 ^ 32) ^ (i+q)*(d*2 ^ s % 2 ^ 32)+(2 ^ 32) ^ (i+q+1)*(d*2 ^ s / 2 ^ 32)=(2 ^ 32) ^ (i+q)*(d*2 ^ s):=by
   rw[show ((2:Nat) ^ 32) ^ (i+q+1)=(2 ^ 32) ^ (i+q)*2 ^ 32 from Nat.pow_succ _ _,Nat.mul_assoc,← Nat.mul_add,e3]
  rw[val_take_step,hdd,Nat.mul_add,Nat.mul_add]
  have e5:2 ^ s*((2 ^ 32) ^ q*((2 ^ 32) ^ i*d))=(2 ^ 32) ^ (i+q)*(d*2 ^ s):=by
   rw[Nat.pow_add,Nat.mul_assoc,Nat.mul_left_comm (2 ^ s),Nat.mul_left_comm ((2 ^ 32) ^ i),Nat.mul_left_comm (2 ^ s),Nat.mul_comm (2 ^ s) d]
  rw[e5]
  have:=h.sum
  omega
 ·rw[show i+1+q=i+q+1 by omega,set_getD_same _ _ _ (by simp[h.len];omega)];exact b2
 ·rw[set_getD_other _ _ _ _ (by omega),set_getD_other _ _ _ _ (by omega)];exact h.far j (by omega)
theorem UpInv.done {l o:List Nat}{q s:Nat}(h:UpInv l o q s l.length):val (2 ^ 32) o=val (2 ^ 32) l*2 ^ (32*q+s):=by
 rw[h.sum,val_take_all _ l _ (Nat.le_refl _),Nat.pow_add,← Nat.pow_mul,Nat.mul_comm (2 ^ s),Nat.mul_right_comm,Nat.mul_comm]
structure DownInv (l o:List Nat) (s i:Nat):Prop where
 len:o.length=l.length
 dg:dig (2 ^ 32) o
 sum:val (2 ^ 32) (o.take i)=val (2 ^ 32) l / 2 ^ s % (2 ^ 32) ^ i
theorem DownInv.start (l:List Nat) (s:Nat):DownInv l (List.replicate l.length 0) s 0:=
 ⟨by simp,dig_replicate (by omega) _,by simp[val];omega⟩
theorem down_digit {l:List Nat}(hl:dig (2 ^ 32) l) (s i:Nat) (hs:s<32) :
 val (2 ^ 32) l / 2 ^ s / (2 ^ 32) ^ i % 2 ^ 32=(l.getD i 0+l.getD (i+1) 0*2 ^ 32) / 2 ^ s % 2 ^ 32:=by
 have hp:=Nat.two_pow_pos s
 have hB:0<(2 ^ 32) ^ i:=Nat.pow_pos (by omega)
 rw[Nat.div_div_eq_div_mul,Nat.mul_comm (2 ^ s),← Nat.div_div_eq_div_mul,← val_drop _ (by omega) l hl,val_drop_step,val_drop_step _ l (i+1)]
 generalize val (2 ^ 32) (l.drop (i+1+1))=V
 generalize l.getD i 0=x
 generalize l.getD (i+1) 0=y
 have e:x+2 ^ 32*(y+2 ^ 32*V)=(x+y*2 ^ 32)+2 ^ s*(2 ^ 32*(2 ^ (32 - s)*V)):=by
  have e32:2 ^ s*(2 ^ 32*(2 ^ (32 - s)*V))=2 ^ 32*(2 ^ 32*V):=by
   rw[Nat.mul_left_comm,← Nat.mul_assoc (2 ^ s),← Nat.pow_add,show s+(32 - s)=32 by omega]
  rw[e32];omega
 rw[e,Nat.add_mul_div_left _ _ hp,Nat.add_mul_mod_self_left]
theorem DownInv.step {l o:List Nat}{s i:Nat}(h:DownInv l o s i) (hs:s<32) (hl:dig (2 ^ 32) l) (hi:i<l.length) :
 DownInv l (o.set i ((l.getD i 0+l.getD (i+1) 0*2 ^ 32) / 2 ^ s % 2 ^ 32)) s (i+1):=by
 refine ⟨by simp[h.len],dig_set h.dg (Nat.mod_lt _ (by omega)) _,?_⟩
 rw[val_take_set _ o i _ (by rw[h.len];exact hi),h.sum,← down_digit hl s i hs]
 exact (Nat.mod_pow_succ ..).symm
theorem DownInv.done {l o:List Nat}{s:Nat}(h:DownInv l o s l.length) (hl:dig (2 ^ 32) l):val (2 ^ 32) o=val (2 ^ 32) l / 2 ^ s:=by
 have e:=h.sum
 rw[val_take_all _ o _ (by rw[h.len];exact Nat.le_refl _)]at e
 rw[e]
 refine Nat.mod_eq_of_lt (Nat.lt_of_le_of_lt (Nat.div_le_self _ _) ?_)
 exact val_lt (by omega) hl
theorem down_all {l:List Nat}(hl:dig (2 ^ 32) l) (q s:Nat):val (2 ^ 32) (l.drop q) / 2 ^ s=val (2 ^ 32) l / 2 ^ (32*q+s):=by
 rw[val_drop _ (by omega) l hl,Nat.div_div_eq_div_mul,Nat.pow_add,Nat.pow_mul]
theorem down_none {l:List Nat}(hl:dig (2 ^ 32) l) (k:Nat) (h:l.length≤k / 32):val (2 ^ 32) l / 2 ^ k=0:=by
 apply Nat.div_eq_of_lt
 have h1:=val_lt (by omega) hl
 rw[← Nat.pow_mul]at h1
 exact Nat.lt_of_lt_of_le h1 (Nat.pow_le_pow_right (by omega) (by omega))
end Vic
set_option linter.unusedVariables false
namespace Vic
theorem kn_start {B P a2 a1 al b1 bl x:Nat}(hal:al<B*P) (ha1:a1<B) (hb1:0<b1) (hP:0<P)
 (h:x*(b1*(B*P)+bl)≤(a2*B+a1)*(B*P)+al):x≤(a2*B+a1) / b1:=by
 rw[Nat.le_div_iff_mul_le hb1]
 rcases Nat.lt_or_ge (a2*B+a1) (x*b1)with h1|h1
 ·exfalso
  have h2:(a2*B+a1+1)*(B*P)≤x*b1*(B*P):=Nat.mul_le_mul_right _ h1
  rw[Nat.mul_add,← Nat.mul_assoc]at h
  rw[Nat.add_mul (a2*B+a1)]at h2
  omega
 ·exact h1
theorem kn_over {B P a2 a1 a0 al b1 b0 bl q r x:Nat}(hal:al<P) (ha0:a0<B) (hqr:q*b1+r=a2*B+a1)
 (ho:r*B+a0<q*b0) (hx:x≤q) (h:x*((b1*B+b0)*P+bl)≤((a2*B+a1)*B+a0)*P+al):x≤q - 1:=by
 rcases Nat.lt_or_ge x q with h1|h1
 ·omega
 ·exfalso
  have e:x=q:=by omega
  subst e
  rw[← hqr]at h
  have h3:x*((b1*B+b0)*P+bl)=(x*b1*B+x*b0)*P+x*bl:=by
   rw[Nat.mul_add,← Nat.mul_assoc,Nat.mul_add,← Nat.mul_assoc]
  have h4:(r*B+a0+1)*P≤x*b0*P:=Nat.mul_le_mul_right _ ho
  rw[h3,Nat.add_mul,Nat.add_mul (x*b1),Nat.add_mul,Nat.add_mul]at h
  rw[Nat.add_mul,Nat.add_mul]at h4
  omega
theorem kn_end {B P a2 a1 a0 al b1 b0 bl q r:Nat}(hbl:bl<P) (hqr:q*b1+r=a2*B+a1) (ho:q*b0≤r*B+a0) (hq:q≤b1*B+b0+1) :
 (q - 1)*((b1*B+b0)*P+bl)≤((a2*B+a1)*B+a0)*P+al:=by
 have h1:q*(b1*B+b0)≤(a2*B+a1)*B+a0:=by
  rw[Nat.mul_add,← Nat.mul_assoc,← hqr,Nat.add_mul];omega
 generalize b1*B+b0=T at *
 generalize (a2*B+a1)*B+a0=S at *
 rcases Nat.eq_zero_or_pos q with h|h
 ·subst h;simp
 ·obtain ⟨p,rfl⟩:∃ p,q=p+1:=⟨q - 1,by omega⟩
  simp only[Nat.add_sub_cancel]
  have h2:p*(T*P+bl)≤p*((T+1)*P):=Nat.mul_le_mul_left _ (by rw[Nat.add_mul];omega)
  have h3:p*(T+1)≤S:=by rw[Nat.mul_add];rw[Nat.add_mul]at h1;omega
  have h4:p*((T+1)*P)≤S*P:=by rw[← Nat.mul_assoc];exact Nat.mul_le_mul_right _ h3
  omega
theorem kn_two {a b q:Nat}(hb:0<b) (h1:a / b≤q) (h2:(q - 1)*b≤a):q=a / b∨q=a / b+1:=by
 have:=(Nat.le_div_iff_mul_le hb).2 h2
 omega
theorem kn_right {a b q:Nat}(hb:0<b) (h:q=a / b):q*b≤a∧a - q*b=a % b:=by
 subst h
 have h:=Nat.div_add_mod a b
 rw[Nat.mul_comm]at h
 omega
end Vic
set_option linter.unusedVariables false
set_option linter.unusedSimpArgs false
namespace Vic
structure KnInv (B a b two b1 q r:Nat):Prop where
 eq:q*b1+r=two
 ge:∀ x,x*b≤a→x≤q
 le:q≤B - 1
structure Tops (B P a b a2 a1 a0 al b1 b0 bl:Nat):Prop where
 ha:a=((a2*B+a1)*B+a0)*P+al
 hb:b=(b1*B+b0)*P+bl
 hal:al<P
 hbl:bl<P
 ha1:a1<B
 ha0:a0<B
 hb0:b0<B
 hb1:0<b1
theorem KnInv.start {B P a b a2 a1 a0 al b1 b0 bl:Nat}(t:Tops B P a b a2 a1 a0 al b1 b0 bl) (hB:1<B) (hlt:a<b*B) :
 KnInv B a b (a2*B+a1) b1 (min ((a2*B+a1) / b1) (B - 1)) (a2*B+a1 - min ((a2*B+a1) / b1) (B - 1)*b1):=by
 have h1:=Nat.div_mul_le_self (a2*B+a1) b1
 have h2:min ((a2*B+a1) / b1) (B - 1)*b1≤(a2*B+a1) / b1*b1:=Nat.mul_le_mul_right _ (Nat.min_le_left _ _)
 have hP:0<P:=by have:=t.hal;omega
 have hb0:0<b:=by
  rw[t.hb]
  have:0<(b1*B+b0)*P:=Nat.mul_pos (by have:=Nat.mul_pos t.hb1 (show 0<B by omega);omega) hP
  omega
 refine ⟨by omega,fun x hx=>?_,Nat.min_le_right _ _⟩
 refine Nat.le_min.2 ⟨?_,?_⟩
 ·refine kn_start (B:=B) (P:=P) (a2:=a2) (a1:=a1) (al:=a0*P+al) (bl:=b0*P+bl) ?_ t.ha1 t.hb1 hP ?_
  ·have:(a0+1)*P≤B*P:=Nat.mul_le_mul_right _ t.ha0
   rw[Nat.add_mul]at this
   have:=t.hal
   omega
  ·rw[t.ha,t.hb]at hx
   have e1:b1*(B*P)+(b0*P+bl)=(b1*B+b0)*P+bl:=by rw[Nat.add_mul,← Nat.mul_assoc];omega
   have e2:(a2*B+a1)*(B*P)+(a0*P+al)=((a2*B+a1)*B+a0)*P+al:=by rw[Nat.add_mul _ a0,← Nat.mul_assoc];omega
   rw[e1,e2];exact hx
 ·rcases Nat.lt_or_ge x B with h|h
  ·omega
  ·have:B*b≤x*b:=Nat.mul_le_mul_right _ h
   rw[Nat.mul_comm]at this
   omega
theorem KnInv.down {B P a b a2 a1 a0 al b1 b0 bl q r:Nat}(h:KnInv B a b (a2*B+a1) b1 q r) (t:Tops B P a b a2 a1 a0 al b1 b0 bl) (hq:0<q)
 (ho:r*B+a0<q*b0):KnInv B a b (a2*B+a1) b1 (q - 1) (r+b1):=by
 refine ⟨?_,fun x hx=>?_,by have:=h.le;omega⟩
 ·obtain ⟨p,rfl⟩:∃ p,q=p+1:=⟨q - 1,by omega⟩
  have:=h.eq
  simp only[Nat.add_sub_cancel]
  rw[Nat.add_mul]at this
  omega
 ·have h1:=h.ge x hx
  rw[t.ha,t.hb]at hx
  exact kn_over t.hal t.ha0 h.eq ho h1 hx
theorem KnInv.done {B P a b a2 a1 a0 al b1 b0 bl q r:Nat}(h:KnInv B a b (a2*B+a1) b1 q r) (t:Tops B P a b a2 a1 a0 al b1 b0 bl) (hb1:B≤2*b1) (hB:1<B)
 (ho:B≤r∨q*b0≤r*B+a0):q=a / b∨q=a / b+1:=by
 have hP:0<P:=by have:=t.hal;omega
 have hb0:0<b:=by
  rw[t.hb]
  have:0<(b1*B+b0)*P:=Nat.mul_pos (by have:=Nat.mul_pos t.hb1 (show 0<B by omega);omega) hP
  omega
 have hle:=h.le
 have ho':q*b0≤r*B+a0:=by
  rcases ho with ho|ho
  ·exact guess_far ho (by omega) t.hb0
  ·exact ho
 refine kn_two hb0 (h.ge _ (Nat.div_mul_le_self _ _)) ?_
 rw[t.ha,t.hb]
 refine kn_end t.hbl h.eq ho' ?_
 have:1*B≤b1*B:=Nat.mul_le_mul_right _ t.hb1
 omega
theorem drop_set_before (o:List Nat) (k d:Nat):(o.set k d).drop (k+1)=o.drop (k+1):=by
 rw[List.drop_set,if_pos (by omega)]
structure SubInv (B q:Nat) (la lb l:List Nat) (i c:Nat) (r:Int):Prop where
 len:l.length=la.length
 dg:dig B l
 sum:(val B (l.take i):Int)+(B:Int) ^ i*(r - (c:Int))=(val B (la.take i):Int) - (q:Int)*(val B (lb.take i):Int)
 rest:l.drop i=la.drop i
 cs:c<B
 rs:r=0∨r=-1
theorem SubInv.start {B:Nat}(hB:1<B) (q:Nat) {la:List Nat}(lb:List Nat) (ha:dig B la):SubInv B q la lb la 0 0 0:=
 ⟨rfl,ha,by simp[val],rfl,by omega,.inl rfl⟩
theorem sub_small {B c q y:Nat}(hB:1<B) (hc:c<B) (hq:q<B) (hy:y<B):c+q*y<B*B:=by
 obtain ⟨n,rfl⟩:∃ n,B=n+1:=⟨B - 1,by omega⟩
 have h1:q*y≤n*n:=Nat.mul_le_mul (by omega) (by omega)
 have h2:(n+1)*(n+1)=n*n+n+n+1:=by rw[Nat.add_mul,Nat.mul_add];omega
 omega
theorem SubInv.step {B q:Nat}{la lb l:List Nat}{i c:Nat}{r:Int}(h:SubInv B q la lb l i c r) (hB:1<B) (hq:q<B) (hb:dig B lb) (hi:i<la.length) :
 SubInv B q la lb (l.set i ((r+((l.getD i 0:Int) - (((c+q*lb.getD i 0) % B:Nat):Int))) % (B:Int)).toNat) (i+1) ((c+q*lb.getD i 0) / B)
  ((r+((l.getD i 0:Int) - (((c+q*lb.getD i 0) % B:Nat):Int))) / (B:Int)):=by
 have hy:=dig_getD hb (by omega) i
 have ha:=dig_getD h.dg (by omega) i
 have hal:l.getD i 0=la.getD i 0:=by
  have e:=congrArg (fun x:List Nat=>x.getD 0 0) h.rest
  simp only[getD_drop,Nat.add_zero]at e;exact e
 have hs:=sub_small hB h.cs hq hy
 have hp:(0:Int)<(B:Int):=by omega
 generalize hm:(c+q*lb.getD i 0) % B=m
 generalize hk:(c+q*lb.getD i 0) / B=k
 have e1:m+B*k=c+q*lb.getD i 0:=by rw[← hm,← hk];exact Nat.mod_add_div _ _
 have hmB:m<B:=by rw[← hm];exact Nat.mod_lt _ (by omega)
 have hkB:k<B:=by rw[← hk,Nat.div_lt_iff_lt_mul (by omega)];exact hs
 have m1:=Int.emod_nonneg (r+((l.getD i 0:Int) - (m:Int))) (show (B:Int)≠0 by omega)
 have m2:=Int.emod_lt_of_pos (r+((l.getD i 0:Int) - (m:Int))) hp
 have e2:=Int.emod_add_mul_ediv (r+((l.getD i 0:Int) - (m:Int))) (B:Int)
 have hr:=h.rs
 have q1 : -1≤(r+((l.getD i 0:Int) - (m:Int))) / (B:Int):=by rw[Int.le_ediv_iff_mul_le hp];omega
 have q2:(r+((l.getD i 0:Int) - (m:Int))) / (B:Int)<1:=by rw[Int.ediv_lt_iff_lt_mul hp];omega
 generalize hqq:(r+((l.getD i 0:Int) - (m:Int))) / (B:Int)=t at *
 generalize hmm:(r+((l.getD i 0:Int) - (m:Int))) % (B:Int)=u at *
 refine ⟨by simp[h.len],dig_set h.dg (by omega) _,?_,?_,hkB,by omega⟩
 ·rw[val_take_set B l i _ (by rw[h.len];exact hi),val_take_step,val_take_step,← hal]
  simp only[Int.natCast_add,Int.natCast_mul,Int.natCast_pow,Int.toNat_of_nonneg m1]
  have e1':(m:Int)+(B:Int)*(k:Int)=(c:Int)+(q:Int)*(lb.getD i 0:Int):=by exact_mod_cast e1
  have hsum:=h.sum
  rw[Int.pow_succ]
  generalize (lb.getD i 0:Int)=y at *
  generalize (l.getD i 0:Int)=x at *
  generalize (B:Int) ^ i=P at *
  have f1:P*(B:Int)*(t - (k:Int))=P*((B:Int)*t) - P*((B:Int)*(k:Int)):=by rw[Int.mul_assoc,Int.mul_sub,Int.mul_sub]
  have f2:P*u+P*((B:Int)*t)=P*r+(P*x - P*(m:Int)):=by rw[← Int.mul_add,e2,Int.mul_add,Int.mul_sub]
  have f3:P*(m:Int)+P*((B:Int)*(k:Int))=P*(c:Int)+P*((q:Int)*y):=by rw[← Int.mul_add,e1',Int.mul_add]
  have f4:(q:Int)*((val B (lb.take i):Int)+P*y)=(q:Int)*(val B (lb.take i):Int)+P*((q:Int)*y):=by rw[Int.mul_add,Int.mul_left_comm]
  rw[f1,f4]
  rw[Int.mul_sub]at hsum
  omega
 ·rw[drop_set_before]
  have:=congrArg (fun x:List Nat=>x.drop 1) h.rest
  simpa [List.drop_drop]using this
theorem SubInv.top {B q:Nat}{la lb l:List Nat}{n c:Nat}{r:Int}(h:SubInv B q la lb l n c r) (hB:1<B) (hla:la.length=n+1) (hlb:lb.length=n) (hda:dig B la) (hdb:dig B lb) :
 ∃ d:Nat,d<B∧((r+((l.getD n 0:Int) - (c:Int))) % (B:Int)).toNat=d∧dig B (l.set n d)∧(l.set n d).length=n+1 ∧
   (0≤r+((l.getD n 0:Int) - (c:Int))→(val B (l.set n d):Int)=(val B la:Int) - (q:Int)*(val B lb:Int)) ∧
   (r+((l.getD n 0:Int) - (c:Int))<0→(val B (l.set n d):Int) - (B:Int) ^ (n+1)=(val B la:Int) - (q:Int)*(val B lb:Int)):=by
 have hp:(0:Int)<(B:Int):=by omega
 have ha:=dig_getD h.dg (by omega) n
 have hal:l.getD n 0=la.getD n 0:=by
  have e:=congrArg (fun x:List Nat=>x.getD 0 0) h.rest
  simp only[getD_drop,Nat.add_zero]at e;exact e
 have hr:=h.rs
 have hc:=h.cs
 have m1:=Int.emod_nonneg (r+((l.getD n 0:Int) - (c:Int))) (show (B:Int)≠0 by omega)
 have m2:=Int.emod_lt_of_pos (r+((l.getD n 0:Int) - (c:Int))) hp
 have e2:=Int.emod_add_mul_ediv (r+((l.getD n 0:Int) - (c:Int))) (B:Int)
 have q1 : -1≤(r+((l.getD n 0:Int) - (c:Int))) / (B:Int):=by rw[Int.le_ediv_iff_mul_le hp];omega
 have q2:(r+((l.getD n 0:Int) - (c:Int))) / (B:Int)<1:=by rw[Int.ediv_lt_iff_lt_mul hp];omega
 have hlen:l.length=n+1:=h.len.trans hla
 have hv:∀ d,(val B (l.set n d):Int)=(val B (l.take n):Int)+(B:Int) ^ n*(d:Int):=fun d=>by
  have:=val_take_set B l n d (by omega)
  rw[val_take_all B _ _ (by simp;omega)]at this
  rw[this];simp
 have hva:(val B la:Int)=(val B (la.take n):Int)+(B:Int) ^ n*(la.getD n 0:Int):=by
  have:=val_take_step B la n
  rw[val_take_all B _ _ (by omega)]at this
  rw[this];simp
 have hs:=h.sum
 rw[val_take_all B lb n (by omega)]at hs
 refine ⟨((r+((l.getD n 0:Int) - (c:Int))) % (B:Int)).toNat,by omega,rfl,dig_set h.dg (by omega) _,by simp[hlen],fun h0=>?_,fun h0=>?_⟩
 ·have hq0:(r+((l.getD n 0:Int) - (c:Int))) / (B:Int)=0:=by
   have:=Int.ediv_nonneg h0 (show (0:Int)≤B by omega);omega
  rw[hq0,Int.mul_zero,Int.add_zero]at e2
  rw[hv,Int.toNat_of_nonneg m1,e2,hva,← hal]
  generalize (B:Int) ^ n=P at *
  rw[Int.mul_sub]at hs
  rw[Int.mul_add,Int.mul_sub]
  omega
 ·have hq0:(r+((l.getD n 0:Int) - (c:Int))) / (B:Int)=-1:=by
   have:=Int.ediv_neg_of_neg_of_pos h0 hp;omega
  rw[hq0]at e2
  rw[hv,Int.toNat_of_nonneg m1,hva,← hal,Int.pow_succ]
  generalize (B:Int) ^ n=P at *
  have e3:(r+((l.getD n 0:Int) - (c:Int))) % (B:Int)=(r+((l.getD n 0:Int) - (c:Int)))+(B:Int):=by omega
  rw[e3]
  rw[Int.mul_sub]at hs
  rw[Int.mul_add,Int.mul_add,Int.mul_sub]
  omega
structure BackInv (B:Nat) (l0 lb l:List Nat) (i s:Nat):Prop where
 len:l.length=l0.length
 dg:dig B l
 sum:val B (l.take i)+B ^ i*s=val B (l0.take i)+val B (lb.take i)
 rest:l.drop i=l0.drop i
 small:s≤1
theorem BackInv.start {B:Nat}{l0:List Nat}(lb:List Nat) (h:dig B l0):BackInv B l0 lb l0 0 0:=⟨rfl,h,by simp[val],rfl,by omega⟩
theorem BackInv.step {B:Nat}{l0 lb l:List Nat}{i s:Nat}(h:BackInv B l0 lb l i s) (hB:1<B) (hb:dig B lb) (hi:i<l0.length) :
 BackInv B l0 lb (l.set i ((s+(l.getD i 0+lb.getD i 0)) % B)) (i+1) ((s+(l.getD i 0+lb.getD i 0)) / B):=by
 have h1:=dig_getD h.dg (by omega) i
 have h2:=dig_getD hb (by omega) i
 have hal:l.getD i 0=l0.getD i 0:=by
  have e:=congrArg (fun x:List Nat=>x.getD 0 0) h.rest
  simp only[getD_drop,Nat.add_zero]at e;exact e
 refine ⟨by simp[h.len],dig_set h.dg (Nat.mod_lt _ (by omega)) _,?_,?_,?_⟩
 ·rw[val_take_set B l i _ (by rw[h.len];exact hi),val_take_step,val_take_step,Nat.pow_succ,Nat.mul_assoc,← hal]
  have e:=Nat.mod_add_div (s+(l.getD i 0+lb.getD i 0)) B
  have e2:B ^ i*((s+(l.getD i 0+lb.getD i 0)) % B)+B ^ i*(B*((s+(l.getD i 0+lb.getD i 0)) / B))=B ^ i*s+(B ^ i*l.getD i 0+B ^ i*lb.getD i 0):=by
   rw[← Nat.mul_add,e,Nat.mul_add,Nat.mul_add]
  have:=h.sum
  omega
 ·rw[drop_set_before]
  have:=congrArg (fun x:List Nat=>x.drop 1) h.rest
  simpa [List.drop_drop]using this
 ·have h3:=h.small
  have:(s+(l.getD i 0+lb.getD i 0)) / B<2:=by rw[Nat.div_lt_iff_lt_mul (by omega)];omega
  omega
theorem BackInv.done {B:Nat}{l0 lb l:List Nat}{n s:Nat}(h:BackInv B l0 lb l n s) (hB:1<B) (hl0:l0.length=n+1) (hlb:lb.length=n) (v:Nat) (hv:val B l0+val B lb=B ^ (n+1)+v) (hvs:v<B ^ (n+1)) :
 dig B (l.set n ((l.getD n 0+s) % B))∧(l.set n ((l.getD n 0+s) % B)).length=n+1∧val B (l.set n ((l.getD n 0+s) % B))=v:=by
 have hlen:l.length=n+1:=h.len.trans hl0
 have hal:l.getD n 0=l0.getD n 0:=by
  have e:=congrArg (fun x:List Nat=>x.getD 0 0) h.rest
  simp only[getD_drop,Nat.add_zero]at e;exact e
 have hd:dig B (l.set n ((l.getD n 0+s) % B)):=dig_set h.dg (Nat.mod_lt _ (by omega)) _
 refine ⟨hd,by simp[hlen],?_⟩
 have e1:=val_take_set B l n ((l.getD n 0+s) % B) (by omega)
 rw[val_take_all B _ _ (by simp;omega)]at e1
 have e0:=val_take_step B l0 n
 rw[val_take_all B _ _ (by omega)]at e0
 have hs:=h.sum
 rw[val_take_all B lb n (by omega)]at hs
 have e2:=Nat.mod_add_div (l.getD n 0+s) B
 have e3:B ^ n*((l.getD n 0+s) % B)+B ^ (n+1)*((l.getD n 0+s) / B)=B ^ n*l.getD n 0+B ^ n*s:=by
  rw[Nat.pow_succ,Nat.mul_assoc,← Nat.mul_add,e2,Nat.mul_add]
 have hlt:=val_lt (by omega:0<B) hd
 rw[List.length_set,hlen]at hlt
 rw[← hal]at e0
 have e4:val B (l.set n ((l.getD n 0+s) % B))+B ^ (n+1)*((l.getD n 0+s) / B)=B ^ (n+1)+v:=by omega
 have e5:=congrArg (· % B ^ (n+1)) e4
 simp only[Nat.add_mul_mod_self_left,Nat.add_mod_left]at e5
 rw[Nat.mod_eq_of_lt hlt,Nat.mod_eq_of_lt hvs]at e5
 exact e5
theorem la_tops {la lb:List Nat}{m:Nat}(da:dig 4294967296 la) (db:dig 4294967296 lb) (hla:la.length=m+3) (hlb:lb.length=m+2) (ht:2147483648≤lb.getD (m+1) 0) :
 Tops 4294967296 (4294967296 ^ m) (val 4294967296 la) (val 4294967296 lb) (la.getD (m+2) 0) (la.getD (m+1) 0) (la.getD m 0) (val 4294967296 (la.take m)) (lb.getD (m+1) 0) (lb.getD m 0) (val 4294967296 (lb.take m)):=by
 have h3:la.drop (m+3) = []:=List.drop_of_length_le (by omega)
 have h2:lb.drop (m+2) = []:=List.drop_of_length_le (by omega)
 refine ⟨?_,?_,val_take_lt (by omega) da m,val_take_lt (by omega) db m,dig_getD da (by omega) _,dig_getD da (by omega) _,dig_getD db (by omega) _,by omega⟩
 ·rw[val_split _ la m,val_drop_step _ la m,val_drop_step _ la (m+1),val_drop_step _ la (m+1+1),show m+1+1=m+2 from rfl,h3]
  simp only[val,Nat.mul_zero,Nat.add_zero]
  generalize 4294967296 ^ m=P
  rw[Nat.mul_comm P,Nat.add_comm]
  congr 2
  omega
 ·rw[val_split _ lb m,val_drop_step _ lb m,val_drop_step _ lb (m+1),show m+1+1=m+2 from rfl,h2]
  simp only[val,Nat.mul_zero,Nat.add_zero]
  generalize 4294967296 ^ m=P
  rw[Nat.mul_comm P,Nat.add_comm]
  congr 2
  omega
end Vic
set_option linter.unusedVariables false
set_option linter.unusedSimpArgs false
namespace Vic
theorem val_drop_small {B:Nat}(hB:0<B) {l:List Nat}{k:Nat}(h:val B l<B ^ k):val B (l.drop k)=0:=by
 have:=val_split B l k
 rcases Nat.eq_zero_or_pos (val B (l.drop k))with h0|h0
 ·exact h0
 ·have:B ^ k*1≤B ^ k*val B (l.drop k):=Nat.mul_le_mul_left _ h0
  omega
theorem val_take_small {B:Nat}(hB:0<B) {l:List Nat}{k:Nat}(h:val B l<B ^ k):val B (l.take k)=val B l:=by
 have:=val_split B l k
 rw[val_drop_small hB h,Nat.mul_zero]at this
 omega
structure LongInv (B A b:Nat) (z o:List Nat) (Z K i:Nat):Prop where
 lz:z.length=Z
 lo:o.length=K
 dz:dig B z
 do_:dig B o
 sum:val B z+b*val B o=A
 low:val B (o.take i)=0
 win:val B (z.drop i)<b
theorem LongInv.start {B A b H:Nat}{z:List Nat}{K n:Nat}(hB:0<B) (hz:dig B z) (hA:val B z=A) (h1:A<B ^ (K+n)*H) (h2:B ^ n*H≤b):LongInv B A b z (List.replicate K 0) z.length K K:=by
 refine ⟨rfl,by simp,hz,dig_replicate hB K,by rw[val_zeros];omega,?_,?_⟩
 ·rw[List.take_of_length_le (by simp)];exact val_zeros B K
 ·have e:=val_split B z K
  have h3:B ^ K*val B (z.drop K)≤A:=by rw[← hA];omega
  have h4:B ^ K*val B (z.drop K)<B ^ K*(B ^ n*H):=by rw[← Nat.mul_assoc,← Nat.pow_add];omega
  have:=Nat.lt_of_mul_lt_mul_left h4
  omega
theorem LongInv.window {B A b:Nat}{z o:List Nat}{Z K i n:Nat}(h:LongInv B A b z o Z K (i+1)) (hB:1<B) (hb:b<B ^ n) :
 val B ((z.drop i).take (n+1))=val B (z.drop i)∧val B (z.drop i)<b*B:=by
 have e:=val_drop_step B z i
 have hd:=dig_getD h.dz (by omega) i
 have hw:=h.win
 have h1:B*(val B (z.drop (i+1))+1)≤B*b:=Nat.mul_le_mul_left _ hw
 rw[Nat.mul_add]at h1
 rw[Nat.mul_comm b B]
 have h2:B*b<B*B ^ n:=Nat.mul_lt_mul_of_pos_left hb (by omega)
 have h3:B ^ (n+1)=B*B ^ n:=by rw[Nat.pow_succ,Nat.mul_comm]
 refine ⟨val_take_small (by omega) (by omega),by omega⟩
theorem LongInv.step {B A b:Nat}{z o l:List Nat}{Z K i n:Nat}(h:LongInv B A b z o Z K (i+1)) (hB:1<B) (hb:b<B ^ n) (hb0:0<b) (hi:i<K) (hz:i+(n+1)≤Z)
 (hl:l.length=n+1) (hd:dig B l) (hv:val B l=val B ((z.drop i).take (n+1)) % b) :
 LongInv B A b (z.take i ++ l ++ z.drop (i+(n+1))) (o.set i (val B ((z.drop i).take (n+1)) / b)) Z K i:=by
 obtain ⟨e1,e2⟩:=h.window hB hb
 rw[e1]at hv ⊢
 have hq:val B (z.drop i) / b<B:=by rw[Nat.div_lt_iff_lt_mul hb0,Nat.mul_comm];exact e2
 have hlz:=h.lz
 have hlo:=h.lo
 have ez:val B (z.drop (i+(n+1)))=0:=by
  rw[← List.drop_drop]
  refine val_drop_small (by omega) (Nat.lt_of_lt_of_le e2 ?_)
  rw[Nat.pow_succ];exact Nat.mul_le_mul_right _ (Nat.le_of_lt hb)
 have es:=val_split B z i
 have el:=h.low
 rw[val_take_step]at el
 have eo:=val_set (B:=B) (val B (z.drop i) / b) (show i<o.length by omega)
 have eoi:B ^ i*o.getD i 0=0:=by omega
 have elo:val B (o.take i)=0:=by omega
 have ti:(z.take i).length=i:=by rw[List.length_take];omega
 have evz:val B (z.take i ++ l ++ z.drop (i+(n+1)))=val B (z.take i)+B ^ i*val B l:=by
  rw[List.append_assoc,val_append,val_append,ez,ti,Nat.mul_zero,Nat.add_zero]
 have edm:=Nat.div_add_mod (val B (z.drop i)) b
 rw[← hv]at edm
 have hm:=Nat.mod_lt (val B (z.drop i)) hb0
 rw[← hv]at hm
 refine ⟨?_,by simp[hlo],?_,dig_set h.do_ hq _,?_,?_,?_⟩
 ·simp only[List.length_append,ti,hl,List.length_drop];omega
 ·exact dig_append.2 ⟨dig_append.2 ⟨dig_take h.dz i,hd⟩,dig_drop h.dz _⟩
 ·rw[evz]
  have hs:=h.sum
  rw[eoi,Nat.add_zero]at eo
  rw[eo,Nat.mul_add]
  generalize val B (z.drop i) / b=q at *
  have e5:B ^ i*val B (z.drop i)=B ^ i*(b*q)+B ^ i*val B l:=by rw[← Nat.mul_add,edm]
  have e6:b*(B ^ i*q)=B ^ i*(b*q):=Nat.mul_left_comm _ _ _
  omega
 ·rw[take_set];exact elo
 ·rw[List.append_assoc,List.drop_append_of_le_length (by omega),List.drop_of_length_le (by omega),List.nil_append,val_append,ez,Nat.mul_zero,Nat.add_zero]
  exact hm
theorem LongInv.done {B A b:Nat}{z o:List Nat}{Z K:Nat}(h:LongInv B A b z o Z K 0) (hb:0<b):val B o=A / b∧val B z=A % b:=by
 have hs:=h.sum
 have hw:=h.win
 rw[List.drop_zero]at hw
 rw[Nat.add_comm]at hs
 subst hs
 rw[Nat.mul_add_div hb,Nat.mul_add_mod,Nat.div_eq_of_lt hw,Nat.mod_eq_of_lt hw]
 exact ⟨rfl,rfl⟩
theorem top_shift {b n s:Nat}(hb:b≠0) (hn:(digs 4294967296 b).length=n+1) (hs:s=32 - blen ((digs 4294967296 b).getD n 0)) :
 s<32∧(digs 4294967296 (b*2 ^ s)).length=n+1∧2147483648≤(digs 4294967296 (b*2 ^ s)).getD n 0∧4294967296 ^ n*2147483648≤b*2 ^ s∧b*2 ^ s<4294967296 ^ (n+1):=by
 have hd:=digs_dig (B:=4294967296) (by omega) b
 have hv:=val_digs (B:=4294967296) (by omega) b
 have h1:=pow_le_of_digs_length (B:=4294967296) (n:=b) (k:=n) (by omega) (by omega)
 have e:=val_split 4294967296 (digs 4294967296 b) n
 rw[val_drop_step,List.drop_of_length_le (show (digs 4294967296 b).length≤n+1 by omega),hv]at e
 simp only[val,Nat.mul_zero,Nat.add_zero]at e
 have hlow:=val_take_lt (B:=4294967296) (by omega) hd n
 have ht:=dig_getD hd (by omega) n
 generalize (digs 4294967296 b).getD n 0=t at *
 generalize val 4294967296 ((digs 4294967296 b).take n)=lo at *
 have ht0:t≠0:=by intro h;rw[h]at e;omega
 have hl1:=lt_two_blen t
 have hl2:=two_le_blen ht0
 have hl3:=blen_le (n:=t) (k:=32) (by omega)
 have hl4:=blen_pos ht0
 generalize blen t=L at *
 subst hs
 have p1:2 ^ (L - 1)*2 ^ (32 - L)=2147483648:=by rw[← Nat.pow_add,show L - 1+(32 - L)=31 by omega]
 have p2:2 ^ L*2 ^ (32 - L)=4294967296:=by rw[← Nat.pow_add,show L+(32 - L)=32 by omega]
 have q1:4294967296 ^ n*2147483648≤b*2 ^ (32 - L):=by
  rw[← p1,← Nat.mul_assoc]
  refine Nat.mul_le_mul_right _ ?_
  have:4294967296 ^ n*2 ^ (L - 1)≤4294967296 ^ n*t:=Nat.mul_le_mul_left _ hl2
  omega
 have q2:b*2 ^ (32 - L)<4294967296 ^ (n+1):=by
  rw[Nat.pow_succ,show 4294967296 ^ n*4294967296=4294967296 ^ n*(2 ^ L*2 ^ (32 - L)) by rw[p2],← Nat.mul_assoc]
  refine Nat.mul_lt_mul_of_pos_right ?_ (Nat.two_pow_pos _)
  have:4294967296 ^ n*(t+1)≤4294967296 ^ n*2 ^ L:=Nat.mul_le_mul_left _ hl1
  rw[Nat.mul_add]at this
  omega
 have q3:4294967296 ^ n≤b*2 ^ (32 - L):=Nat.le_trans (by omega) q1
 refine ⟨by omega,?_,?_,q1,q2⟩
 ·have a1:=digs_length_le (B:=4294967296) (by omega) q2
  have a2:¬ (digs 4294967296 (b*2 ^ (32 - L))).length≤n:=fun h=>by
   have:=lt_pow_digs_length (B:=4294967296) (by omega) (b*2 ^ (32 - L))
   have:=Nat.pow_le_pow_right (show 0<4294967296 by omega) h
   omega
  omega
 ·rw[digs_getD (by omega)]
  have r1:b*2 ^ (32 - L) / 4294967296 ^ n<4294967296:=by
   rw[Nat.div_lt_iff_lt_mul (Nat.pow_pos (by omega)),Nat.mul_comm 4294967296,← Nat.pow_succ]
   exact q2
  rw[Nat.mod_eq_of_lt r1,Nat.le_div_iff_mul_le (Nat.pow_pos (by omega)),Nat.mul_comm]
  exact q1
end Vic
