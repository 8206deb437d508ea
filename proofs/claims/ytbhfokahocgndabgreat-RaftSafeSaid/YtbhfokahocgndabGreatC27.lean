import Derived.Test.YtbhfokahocgndabGreatPvQ3
import Derived.Test.YtbhfokahocgndabGreatC12
import Derived.Test.YtbhfokahocgndabGreatY2
/- Contracts of functions: values, commands, calls that may be. -/
set_option linter.unusedSimpArgs false
set_option linter.unusedVariables false
set_option maxHeartbeats 4000000
namespace Go.Proofs
open Go.Pv
set_option maxRecDepth 100000
noncomputable def zji (v:VVal):Int :=
 if v.kind < 0∨2 < v.kind then 15 else
 if v.kind=2∧32 < (v.text.size:Int) then 2 else
 if (v.kind ≠ 2∧v.text ≠ bz)∨(v.kind ≠ 1∧v.num ≠ 0) then 8 else
 if fnan v.num=true∧v.num ≠ zge then 8 else 0
theorem fnan0:fnan 0=false:=by decide +kernel
theorem zmc (x:Nat):zbk x=zbk 0 ↔ x=0:=by
 rw [zin,fnan0];simp
theorem zyp (x:Nat):zbk x=x ↔ ¬ (fnan x=true∧x ≠ zge):=by
 unfold zbk
 cases h:fnan x
 ·simp
 ·simp only [if_true,true_and,ne_eq,Classical.not_not];exact ⟨Eq.symm,Eq.symm⟩
theorem zlq (a:ByteArray):a.toList=[] ↔ a=bz:=by
 have h:(bz:ByteArray).toList=[]:=by rw [bl_eq]
 rw [← h,zux]
theorem zn2 (x:Nat):Ctr Tryz.prog 194 [.sc (.float .f64 x),.sc (.float .f64 0)] (bv (decide (x=0))) []:=by
 have hs:=c_nSame x 0
 rwa [decide_eq_decide.2 (zmc x)] at hs
theorem zug (x:Nat):(x:Int)=9221120237041090561 ↔ x=zge:=by
 unfold zge;omega
theorem z4l (x:Nat):Ctr Tryz.prog 226 [.sc (.float .f64 x)] (bv (decide (x=0))) []:=by
 refine sBody Tryz.func226 ?_;conv=>whnf
 refine tC (zfy x) ?_
 refine zaa rfl ?_
 show bv ((x:Int) == 0)=_
 have e:(x=0) ↔ ((x:Int)=0):=by omega
 rw [decide_eq_decide.2 e];rfl
theorem c_rNaN:Ctr Tryz.prog 227 [] (.sc (.float .f64 zge)) []:=by
 have h:=zng zge (by decide)
 refine sBody Tryz.func227 ?_;conv=>whnf
 refine tC h ?_
 exact zaa rfl rfl
theorem zi6 (v:VVal):Ctr Tryz.prog 218 [.ag v.enc] (iv (zji v)) []:=by
 refine sBody Tryz.func218 ?_;conv=>whnf
 repeat' (first | (refine tS ?_ ?_<;>intro h) | (first | refine tC (z4l v.num) ?_ | refine tC (zfy v.num) ?_ | refine tC c_rNaN ?_ | refine tC (zfy zge) ?_) | fail)
 all_goals (refine zaa rfl (congrArg (fun n:Int=>iv n) ?_))
 all_goals (unfold zji)
 all_goals (try simp only [znn,decide_eq_true_eq,decide_eq_false_iff_not,fnan] at *)
 all_goals (try simp_all [zlq,zug])
 all_goals (try ((repeat' split)<;>first | omega | simp_all [zlq,zug] | skip))
theorem c_canon (x:Nat):Ctr Tryz.prog 221 [.sc (.float .f64 x)] (bv (decide (zbk x=x))) []:=by
 refine sBody Tryz.func221 ?_;conv=>whnf
 refine tC (zsn x) ?_
 refine tC (zfy (zbk x)) ?_
 refine tC (zfy x) ?_
 refine zaa rfl ?_
 show bv ((zbk x:Int) == (x:Int))=_
 have e:(zbk x=x) ↔ ((zbk x:Int)=(x:Int)):=by omega
 rw [decide_eq_decide.2 e];rfl
theorem zt1 (v:VVal):Ctr Tryz.prog 208 [.ag v.enc] (iv (zji v)) []:=by
 have f0:=fnan0
 refine sBody Tryz.func208 ?_;conv=>whnf
 repeat' (first | (refine tS ?_ ?_<;>intro h) | (first | refine tC (zn2 v.num) ?_ | refine tC (c_canon v.num) ?_) | fail)
 all_goals (refine zaa rfl (congrArg (fun n:Int=>iv n) ?_))
 all_goals (unfold zji)
 all_goals (try simp only [znn,zyp,decide_eq_true_eq,decide_eq_false_iff_not] at *)
 all_goals (try simp_all [zlq])
 all_goals (try ((repeat' split)<;>first | omega | simp_all [zlq] | skip))
noncomputable def zeroV (v:VVal):Bool:=decide (v.kind=0∧v.num=0∧v.text=bz)
theorem zke (v:VVal):zeroV v=true ↔ v.kind=0∧zji v=0:=by
 unfold zeroV zji
 rw [decide_eq_true_eq]
 have f0:=fnan0
 constructor
 ·rintro ⟨h1,h2,h3⟩
  rw [h1,h2,h3];simp [f0]
 ·rintro ⟨h1,h2⟩
  rw [h1] at h2
  refine ⟨h1,?_⟩
  simp only [show ¬ ((0:Int) < 0∨(2:Int) < 0) by omega,if_false] at h2
  split at h2
  ·omega
  ·split at h2
   ·omega
   ·rename_i _ h3
    have h3':¬ ((0:Int) ≠ 2∧v.text ≠ bz)∧¬ ((0:Int) ≠ 1∧v.num ≠ 0):=⟨fun h=>h3 (.inl h),fun h=>h3 (.inr h)⟩
    simp at h3'
    exact ⟨h3'.2,h3'.1⟩
theorem c_zero (v:VVal):Ctr Tryz.prog 217 [.ag v.enc] (bv (zeroV v)) []:=by
 refine sBody Tryz.func217 ?_;conv=>whnf
 refine tS ?_ ?_<;>intro h
 ·refine tC (zi6 v) ?_
  refine zaa rfl (congrArg (fun b:Bool=>bv b) ?_)
  rw [Bool.eq_iff_iff,zke,beq_iff_eq]
  simp [h]
 ·exact zaa rfl (by simp [zeroV,h])
theorem c_none (v:VVal):Ctr Tryz.prog 209 [.ag v.enc] (bv (zeroV v)) []:=by
 refine sBody Tryz.func209 ?_;conv=>whnf
 repeat' (first | (refine tS ?_ ?_<;>intro h) | refine tC (zn2 v.num) ?_ | fail)
 all_goals (refine zaa rfl (congrArg (fun n:Bool=>bv n) ?_))
 all_goals (unfold zeroV)
 all_goals (try simp only [znn,decide_eq_true_eq,decide_eq_false_iff_not] at *)
 all_goals (simp_all [zlq])
theorem zp4 (v:VVal):Ctr Tryz.prog 220 [.ag v.enc] (bv (zeroV v)) []:=by
 refine sBody Tryz.func220 ?_;conv=>whnf
 repeat' (first | (refine tS ?_ ?_<;>intro h) | refine tC (zn2 v.num) ?_ | fail)
 all_goals (refine zaa rfl (congrArg (fun n:Bool=>bv n) ?_))
 all_goals (unfold zeroV)
 all_goals (try simp only [znn,decide_eq_true_eq,decide_eq_false_iff_not] at *)
 all_goals (simp_all [zlq])
noncomputable def cmdR (c:VCmd):Int :=
 if c.kind < 1∨6 < c.kind then 15 else
 if 8 < (c.key.size:Int) then 2 else
 if (c.key.size:Int) < 1∨(c.kind ≠ 4∧zeroV c.old=false)∨zji c.old ≠ 0∨zji c.val ≠ 0 then 8 else
 if c.kind=1∨c.kind=3 then (if zeroV c.val then 0 else 8) else
 if c.kind=2 then (if c.val.kind=0 then 8 else 0) else
 if c.kind=5∨c.kind=6 then (if c.val.kind=1 then 0 else 8) else 0
theorem c_rCmd (c:VCmd):Ctr Tryz.prog 201 [.ag c.enc] (iv (cmdR c)) []:=by
 refine sBody Tryz.func201 ?_;conv=>whnf
 repeat' (first | (refine tS ?_ ?_<;>intro h) | (first | refine tC (c_zero c.old) ?_ | refine tC (c_zero c.val) ?_ | refine tC (zi6 c.old) ?_ | refine tC (zi6 c.val) ?_) | fail)
 all_goals (refine zaa rfl (congrArg (fun n:Int=>iv n) ?_))
 all_goals (unfold cmdR)
 all_goals (try simp_all)
 all_goals (try ((repeat' split)<;>first | omega | simp_all | skip))
theorem zwn (s:ByteArray):Ctr Tryz.prog 207 [sv s] (bv (decide (1≤(s.size:Int)∧(s.size:Int)≤8))) []:=by
 refine sBody Tryz.func207 ?_;conv=>whnf
 repeat' (first | (refine tS ?_ ?_<;>intro h) | fail)
 all_goals (refine zaa rfl (congrArg (fun n:Bool=>bv n) ?_))
 all_goals simp_all
 all_goals omega
theorem zxr (c:VCmd):Ctr Tryz.prog 184 [.ag c.enc] (iv (cmdR c)) []:=by
 have z1:=zke c.old
 have z2:=zke c.val
 refine sBody Tryz.func184 ?_;conv=>whnf
 repeat' (first | (refine tS ?_ ?_<;>intro h) | (first | refine tC (zwn c.key) ?_ | refine tC (c_none c.old) ?_ | refine tC (c_none c.val) ?_ | refine tC (zt1 c.old) ?_ | refine tC (zt1 c.val) ?_) | fail)
 all_goals (refine zaa rfl (congrArg (fun n:Int=>iv n) ?_))
 all_goals (unfold cmdR)
 all_goals (try simp_all)
 all_goals (try ((repeat' split)<;>first | omega | simp_all | skip))
noncomputable def callR (c:VCall):Int:=if c.client < 1∨4 < c.client∨c.seq < 1∨1099511627776 < c.seq then 1 else cmdR c.cmd
theorem zlg (c:VCall):Ctr Tryz.prog 167 [.ag c.enc] (iv (callR c)) []:=by
 refine sBody Tryz.func167 ?_;conv=>whnf
 repeat' (first | (refine tS ?_ ?_<;>intro h) | refine tC (c_rCmd c.cmd) ?_ | fail)
 all_goals (refine zaa rfl (congrArg (fun n:Int=>iv n) ?_))
 all_goals (unfold callR)
 all_goals (try simp_all)
 all_goals (try ((repeat' split)<;>first | omega | simp_all | skip))
theorem zo0 (a b:Int):Ctr Tryz.prog 183 [iv a,iv b] (bv (decide (¬ (a < 1∨4 < a∨b < 1∨1099511627776 < b)))) []:=by
 refine sBody Tryz.func183 ?_;conv=>whnf
 repeat' (first | (refine tS ?_ ?_<;>intro h) | fail)
 all_goals (refine zaa rfl (congrArg (fun n:Bool=>bv n) ?_))
 all_goals (try simp_all)
 all_goals (try omega)
theorem zg8 (c:VCall):Ctr Tryz.prog 127 [.ag c.enc] (iv (callR c)) []:=by
 refine sBody Tryz.func127 ?_;conv=>whnf
 refine tC (zo0 c.client c.seq) ?_
 repeat' (first | (refine tS ?_ ?_<;>intro h) | refine tC (zxr c.cmd) ?_ | fail)
 all_goals (refine zaa rfl (congrArg (fun n:Int=>iv n) ?_))
 all_goals (unfold callR)
 ·rw [if_pos (by simp at h;omega)]
 ·rw [if_neg (by simp at h;omega)]
noncomputable def zeroC (c:VCall):Bool:=decide (c.client=0∧c.seq=0∧c.cmd.kind=0∧c.cmd.key=bz) && (zeroV c.cmd.old && zeroV c.cmd.val)
theorem zpg (v:VVal):v.nrm=vz.nrm ↔ zeroV v=true:=by
 rw [VVal.nrm_eq,zmc,zeroV,decide_eq_true_eq]
theorem z1d (c:VCall):c.nrm=kz.nrm ↔ zeroC c=true:=by
 rw [VCall.nrm_eq,VCmd.nrm_eq,zeroC,Bool.and_eq_true,Bool.and_eq_true,decide_eq_true_eq,← zpg,← zpg]
 constructor
 ·rintro ⟨h1,h2,h3,h4,h5,h6⟩;exact ⟨⟨h1,h2,h3,h4⟩,h5,h6⟩
 ·rintro ⟨⟨h1,h2,h3,h4⟩,h5,h6⟩;exact ⟨h1,h2,h3,h4,h5,h6⟩
theorem zvw (c:VCall):Ctr Tryz.prog 228 [.ag c.enc] (bv (zeroC c)) []:=by
 refine sBody Tryz.func228 ?_;conv=>whnf
 refine tC (zxx c kz) ?_
 refine zaa rfl (congrArg (fun n:Bool=>bv n) ?_)
 rw [Bool.eq_iff_iff,decide_eq_true_eq,z1d]
theorem zvt (c:Conf):Ctr Tryz.prog 229 [.ag c.enc] (bv (decide (c=cz))) []:=by
 refine sBody Tryz.func229 ?_;conv=>whnf
 refine tC (zi4 c cz) ?_
 exact zaa rfl rfl
theorem z4c (c:VCall):Ctr Tryz.prog 206 [.ag c.enc] (bv (zeroC c)) []:=by
 refine sBody Tryz.func206 ?_;conv=>whnf
 repeat' (first | (refine tS ?_ ?_<;>intro h) | (first | refine tC (zp4 c.cmd.old) ?_ | refine tC (zp4 c.cmd.val) ?_) | fail)
 all_goals (refine zaa rfl (congrArg (fun n:Bool=>bv n) ?_))
 all_goals (unfold zeroC)
 all_goals (simp_all [zlq])
noncomputable def zd5 (x:Ent):Bool :=
 if x.kind=0 then zeroC x.call && decide (x.conf=cz) else
 if x.kind=1 then decide (callR x.call=0) && decide (x.conf=cz) else
 if x.kind=2 then zeroC x.call && confB x.conf else false
theorem z2a (x:Ent):Ctr Tryz.prog 219 [.ag x.enc] (bv (zd5 x)) []:=by
 refine sBody Tryz.func219 ?_;conv=>whnf
 repeat' (first | (refine tS ?_ ?_<;>intro h) | (first | refine tC (zvw x.call) ?_ | refine tC (zvt x.conf) ?_ | refine tC (zlg x.call) ?_ | refine tC (ziy x.conf) ?_) | fail)
 all_goals (refine zaa rfl (congrArg (fun n:Bool=>bv n) ?_))
 all_goals (unfold zd5)
 all_goals (try simp_all)
theorem zp1 (x:Ent):Ctr Tryz.prog 182 [.ag x.enc] (bv (zd5 x)) []:=by
 refine sBody Tryz.func182 ?_;conv=>whnf
 repeat' (first | (refine tS ?_ ?_<;>intro h) | (first | refine tC (z4c x.call) ?_ | refine tC (zg8 x.call) ?_ | refine tC (zhl x.conf) ?_) | (refine ⟨zig,_,zh5 x.conf cz,?_⟩;conv=>whnf) | fail)
 all_goals (refine zaa rfl (congrArg (fun n:Bool=>bv n) ?_))
 all_goals (unfold zd5)
 all_goals (try simp_all)
 all_goals (cases confB x.conf<;>simp)
noncomputable def rowB:List Ent→Int→Int→Bool
 | [],_,_=>true
 | x :: l,b,t=>(decide (max b 1≤x.term∧x.term≤t) && zd5 x) && rowB l x.term t
def behind (l:List Ent) (b:Int) (i:Nat):Int:=match (l.take i).getLast? with
 | none=>b
 | some x=>x.term
theorem zek (l:List Ent) (b:Int):behind l b 0=b:=by simp [behind]
theorem zbd {l:List Ent}{b:Int}{i:Nat} (h:i < l.length):behind l b (i+1)=(l[i]'h).term:=by
 have e:(l.take (i+1)).getLast?=some (l[i]'h):=by rw [List.take_succ_eq_append_getElem h,List.getLast?_append];rfl
 unfold behind
 rw [e]
theorem ze3:∀ (l:List Ent) (b t:Int),rowB l b t=true ↔ ∀ i (h:i < l.length),max (behind l b i) 1≤(l[i]'h).term∧(l[i]'h).term≤t∧zd5 (l[i]'h)=true
 | [],b,t=>by simp [rowB]
 | x :: l,b,t=>by
  simp only [rowB,Bool.and_eq_true,decide_eq_true_eq,ze3 l x.term t]
  constructor
  ·rintro ⟨⟨⟨h1,h2⟩,h3⟩,h4⟩ i hi
   cases i with
   | zero=>rw [zek];exact ⟨h1,h2,h3⟩
   | succ i =>
    have:=h4 i (by simpa using hi)
    have e:behind (x :: l) b (i+1)=behind l x.term i:=by
     cases i with
     | zero=>rw [zek,zbd (by simp)];simp
     | succ i=>rw [zbd (by simp at hi ⊢;omega),zbd (by simp at hi;omega)];simp
    rw [e];simpa using this
  ·intro h
   have h0:=h 0 (by simp)
   rw [zek] at h0
   refine ⟨⟨⟨h0.1,h0.2.1⟩,h0.2.2⟩,fun i hi=>?_⟩
   have:=h (i+1) (by simpa using hi)
   have e:behind (x :: l) b (i+1)=behind l x.term i:=by
    cases i with
    | zero=>rw [zek,zbd (by simp)];simp
    | succ i=>rw [zbd (by simp;omega),zbd (by omega)];simp
   rw [e] at this;simpa using this
theorem zcv (n lo hi:Int):Ctr Tryz.prog 73 [iv n,iv lo,iv hi] (bv (decide (lo≤n∧n≤hi))) []:=by
 refine sBody Tryz.func73 ?_;conv=>whnf
 repeat' (first | (refine tS ?_ ?_<;>intro h) | fail)
 all_goals (refine zaa rfl (congrArg (fun b:Bool=>bv b) ?_))
 all_goals (try simp_all)
 all_goals (try omega)
theorem c_row (l:List Ent) (hm:l.length≤maxLen) (b t:Int):Ctr Tryz.prog 202 [.sl 16 (l.map Ent.enc),iv b,iv t] (bv (rowB l b t)) []:=by
 have hm':l.length≤9223372036854775807:=Nat.le_trans hm (by decide)
 refine sBody Tryz.func202 ?_;conv=>whnf
 refine zbe mixed (by kernel_rfl) (fun i:Nat=>i≤l.length∧∀ j (hj:j < l.length),j < i→max (behind l b j) 1≤(l[j]'hj).term∧(l[j]'hj).term≤t∧zd5 (l[j]'hj)=true) (fun i=>[(7,iv i),(1,iv (behind l b i))]) [] (fun i=>l.length - i) 0 ⟨Nat.zero_le _,fun j _ h=>absurd h (Nat.not_lt_zero _)⟩ ?_ ?_
 ·exact wkE
 rintro i ⟨hi,hp⟩
 refine tS ?_ ?_<;>intro h
 ·simp only [List.length_map] at h
  have hlt:i < l.length:=by omega
  have emax:(if (1:Int) > behind l b i then 1 else behind l b i)=max (behind l b i) 1:=by split<;>omega
  refine tAt (za3 hlt) ?_
  refine tC (zcv _ _ _) ?_
  refine tS ?_ ?_<;>intro h
  ·refine zaa rfl (congrArg (fun b:Bool=>bv b) ?_)
   symm
   rw [← Bool.not_eq_true,ze3]
   intro hh
   have:=hh i hlt
   have h2:=of_decide_eq_false h
   rw [emax] at h2
   exact h2 ⟨this.1,this.2.1⟩
  ·have h1:=of_decide_eq_true h
   rw [emax] at h1
   refine tAt (za3 hlt) ?_
   refine tC (z2a (l[i]'hlt)) ?_
   refine tS ?_ ?_<;>intro h
   ·refine zaa rfl (congrArg (fun b:Bool=>bv b) ?_)
    symm
    rw [← Bool.not_eq_true,ze3]
    intro hh
    have:=hh i hlt
    rw [h] at this;cases this.2.2
   ·refine tAt (za3 hlt) ?_
    refine ⟨i+1,⟨⟨by omega,?_⟩,by omega⟩,?_⟩
    ·intro j hj hji
     by_cases e:j=i
     ·subst e;exact ⟨h1.1,h1.2,h⟩
     ·exact hp j hj (by omega)
    ·rw [zbd hlt]
     exact wkE
 ·simp only [List.length_map] at h
  have:i=l.length:=by omega
  subst this
  refine zaa rfl (congrArg (fun b:Bool=>bv b) ?_)
  symm
  rw [ze3]
  intro j hj
  exact hp j hj hj
theorem zhd (l:List Ent) (hm:l.length≤maxLen) (b t:Int):Ctr Tryz.prog 126 [.sl 16 (l.map Ent.enc),iv b,iv t] (bv (rowB l b t)) []:=by
 have hm':l.length≤9223372036854775807:=Nat.le_trans hm (by decide)
 have emax:∀ x:Int,(if (1:Int) > x then 1 else x)=max x 1:=by intro x;split<;>omega
 refine sBody Tryz.func126 ?_;conv=>whnf
 refine zbe mixed (by kernel_rfl) (fun i:Nat=>i≤l.length∧∀ j (hj:j < l.length),j < i→max (behind l b j) 1≤(l[j]'hj).term∧(l[j]'hj).term≤t∧zd5 (l[j]'hj)=true) (fun i=>[(14,iv i),(7,iv (max (behind l b i) 1))]) [] (fun i=>l.length - i) 0 ⟨Nat.zero_le _,fun j _ h=>absurd h (Nat.not_lt_zero _)⟩ ?_ ?_
 ·(refine tWK ?_;and_intros<;>try exact ⟨⟩)
  all_goals first | rfl | (rw [zek];exact emax b)
 rintro i ⟨hi,hp⟩
 refine tS ?_ ?_<;>intro h
 ·simp only [List.length_map] at h
  have hlt:i < l.length:=by omega
  have bad:¬ (max (behind l b i) 1≤(l[i]'hlt).term∧(l[i]'hlt).term≤t∧zd5 (l[i]'hlt)=true)→rowB l b t=false:=by
   intro hn
   rw [← Bool.not_eq_true,ze3]
   exact fun hh=>hn (hh i hlt)
  refine tAt (za3 hlt) ?_
  refine tS ?_ ?_<;>intro h
  ·exact zaa rfl (by rw [bad (by omega)])
  ·have h1:=h
   refine tS ?_ ?_<;>intro h
   ·exact zaa rfl (by rw [bad (by omega)])
   ·have h2:=h
    refine tC (zp1 (l[i]'hlt)) ?_
    refine tS ?_ ?_<;>intro h
    ·exact zaa rfl (by rw [bad (by rw [h];simp)])
    ·refine ⟨i+1,⟨⟨by omega,?_⟩,by omega⟩,?_⟩
     ·intro j hj hji
      by_cases e:j=i
      ·subst e;exact ⟨by omega,by omega,h⟩
      ·exact hp j hj (by omega)
     ·rw [zbd hlt,show max (l[i]'hlt).term 1=(l[i]'hlt).term from by omega]
      exact wkE
 ·simp only [List.length_map] at h
  have:i=l.length:=by omega
  subst this
  refine zaa rfl (congrArg (fun b:Bool=>bv b) ?_)
  symm
  rw [ze3]
  intro j hj
  exact hp j hj hj
structure HardA (h:Hrd):Prop where
 t:0≤h.term∧h.term≤1099511627776
 v:-1≤h.vote∧h.vote≤6
 b:0≤h.base∧h.base≤1099511627776
 bt:0≤h.baseTerm∧h.baseTerm≤h.term
 z:h.baseTerm=0 ↔ h.base=0
noncomputable def hardB (h:Hrd):Bool:=dec (HardA h) && (confB h.baseConf && (decide (h.snap.length≤16384∧(0 < h.base∨h.snap.length=0)) && rowB h.log h.baseTerm h.term))
theorem zx1 (h:Hrd):HardA h ↔ ((0≤h.term∧h.term≤1099511627776)∧(-1≤h.vote∧h.vote≤6)∧(0≤h.base∧h.base≤1099511627776)∧(0≤h.baseTerm∧h.baseTerm≤h.term)∧(h.baseTerm=0 ↔ h.base=0)) :=
 ⟨fun ⟨a,b,c,d,e⟩=>⟨a,b,c,d,e⟩,fun ⟨a,b,c,d,e⟩=>⟨a,b,c,d,e⟩⟩
theorem zoe (a:Hrd) (hm:a.log.length≤maxLen):Ctr Tryz.prog 171 [.ag a.enc] (bv (hardB a)) []:=by
 have no:¬ HardA a→hardB a=false:=fun hn=>by unfold hardB;rw [zla hn];rfl
 have hz:((a.baseTerm == 0) != (a.base == 0))=true ↔ ¬ (a.baseTerm=0 ↔ a.base=0):=by
  rw [bne_iff_ne,ne_eq,Bool.eq_iff_iff,beq_iff_eq,beq_iff_eq]
 refine sBody Tryz.func171 ?_;conv=>whnf
 refine tC (zcv _ _ _) ?_
 refine tS ?_ ?_<;>intro h
 ·exact zaa rfl (by rw [no (fun k=>of_decide_eq_false h k.t)])
 have g1:=of_decide_eq_true h
 refine tC (zcv _ _ _) ?_
 refine tS ?_ ?_<;>intro h
 ·exact zaa rfl (by rw [no (fun k=>of_decide_eq_false h k.v)])
 have g2:=of_decide_eq_true h
 refine tC (zcv _ _ _) ?_
 refine tS ?_ ?_<;>intro h
 ·exact zaa rfl (by rw [no (fun k=>of_decide_eq_false h k.b)])
 have g3:=of_decide_eq_true h
 refine tC (zcv _ _ _) ?_
 refine tS ?_ ?_<;>intro h
 ·exact zaa rfl (by rw [no (fun k=>of_decide_eq_false h k.bt)])
 have g4:=of_decide_eq_true h
 ((with_reducible refine And.intro (show Tryz.prog.underlying _=some .bool by kernel_rfl) ?_);conv=>whnf)
 refine tS ?_ ?_<;>intro h
 ·exact zaa rfl (by rw [no (fun k=>hz.1 h k.z)])
 have g5:a.baseTerm=0 ↔ a.base=0:=by
  apply Classical.byContradiction
  intro hn
  rw [hz.2 hn] at h;cases h
 have yes:dec (HardA a)=true:=ze0 ⟨g1,g2,g3,g4,g5⟩
 unfold hardB
 rw [yes,Bool.true_and]
 repeat' (first | (refine tS ?_ ?_<;>intro h) | (first | refine tC (ziy a.baseConf) ?_ | refine tC (c_row a.log hm _ _) ?_) | fail)
 all_goals (refine zaa rfl (congrArg (fun b:Bool=>bv b) ?_))
 all_goals (try simp only [List.length_map] at *)
 all_goals (try simp_all)
 all_goals (try omega)
theorem zgv (a:Hrd) (hm:a.log.length≤maxLen):Ctr Tryz.prog 47 [.ag a.enc] (iv (if hardB a then 0 else 6)) []:=by
 have no:¬ HardA a→hardB a=false:=fun hn=>by unfold hardB;rw [zla hn];rfl
 have hz:((a.baseTerm == 0) != (a.base == 0))=true ↔ ¬ (a.baseTerm=0 ↔ a.base=0):=by
  rw [bne_iff_ne,ne_eq,Bool.eq_iff_iff,beq_iff_eq,beq_iff_eq]
 refine sBody Tryz.func47 ?_;conv=>whnf
 repeat' (first | (first | refine tKA ?_ | refine tS ?_ ?_<;>intro h) | ((with_reducible refine And.intro (show Tryz.prog.underlying _=some .bool by kernel_rfl) ?_);conv=>whnf) | fail)
 all_goals first
  | (refine zaa rfl (congrArg (fun n : Int => iv n) ?_)
     rw [no (by intro k;obtain ⟨k1,k2,k3,k4,k5⟩:=(zx1 a).1 k;first | omega | (exact hz.1 (by assumption) k5))]
     rfl)
  | skip
 have yes:dec (HardA a)=true:=ze0 ⟨by omega,by omega,by omega,by omega,by
  apply Classical.byContradiction
  intro hn
  rw [hz.2 hn] at h;cases h⟩
 unfold hardB
 rw [yes,Bool.true_and]
 refine tC (zhl a.baseConf) ?_
 cases hc:confB a.baseConf
 ·simp only [Bool.false_eq_true,if_false]
  conv=>whnf
  exact zaa rfl rfl
 ·simp only [if_true]
  conv=>whnf
  repeat' (first | (first | refine tKA ?_ | refine tS ?_ ?_<;>intro h) | refine tC (zhd a.log hm _ _) ?_ | fail)
  all_goals (refine zaa rfl (congrArg (fun n:Int=>iv n) ?_))
  all_goals (try simp only [List.length_map] at *)
  all_goals (try simp_all)
  all_goals (try omega)
  all_goals (try (intro _ e;rw [e] at h;simp at h))
theorem zrm (a:Hrd) (hm:a.log.length≤maxLen) (hb:0≤a.base) (hs:a.base+a.log.length < 9223372036854775808) (i:Int) (hi:isI i) (t:Int):Ctr Tryz.prog 198 [.ag a.enc,iv i,iv t] (bv (fits a i t)) []:=by
 refine sBody Tryz.func198 ?_;conv=>whnf
 refine tS ?_ ?_<;>intro h
 ·refine tC (zl6 a hm hb hs i hi) ?_
  exact zaa rfl (by simp [fits,h])
 ·exact zaa rfl (by simp [fits,h])
abbrev hzv:List PV:=[iv 0,iv 0,iv 0,iv 0,iv 0,iv 0,iv 0,iv 0,.nl,.nl]
theorem c_twin (h:Hrd) (h1:h.snap.length≤4294967296) (h2:h.log.length≤4294967296):Ctr Tryz.prog 222 [.ag h.enc] (.ag (h.own 0)) h.obs:=by
 refine sBody Tryz.func222 ?_;conv=>whnf
 refine tC (zcn h.snap h1) ?_
 refine tN1 ?_
 refine tC (zb7 h.log h2) ?_
 refine tN1 ?_
 refine zal [(0,80),(1,128)] rfl ⟨rfl,rfl,True.intro⟩ (zao ?_)
 conv=>whnf
 repeat' (first | exact rfl | ((with_reducible refine And.intro ?_ ?_)<;>(first | (with_reducible exact zae _ rfl) | exact zas rfl rfl rfl | (conv=>whnf))))
def putM:List Ent→List Ent→List Ent
 | g,[]=>g
 | [],x :: l=>x :: l
 | y :: g,x :: l=>if y.term=x.term then y :: putM g l else x :: l
def putG (g:List Ent) (n:Nat) (l:List Ent):List Ent:=g.take n++putM (g.drop n) l
def putH (h:Hrd) (i:Int) (l:List Ent):Hrd:={ h with log:=putG h.log (i - h.base).toNat l }
def alike (g:List Ent) (n:Nat) (l:List Ent) (j:Nat):Prop:=∀ k,k < j→∃ h1:n+k < g.length,∃ h2:k < l.length,(g[n+k]'h1).term=(l[k]'h2).term
theorem zuq:∀ (g l:List Ent),(∀ k,k < l.length→∃ h1:k < g.length,∃ h2:k < l.length,(g[k]'h1).term=(l[k]'h2).term)→putM g l=g
 | g,[],_=>by cases g<;>rfl
 | [],x :: l,h=>by obtain ⟨h1,_⟩:=h 0 (by simp);simp at h1
 | y :: g,x :: l,h=>by
  obtain ⟨_,_,h0⟩:=h 0 (by simp)
  simp only [List.getElem_cons_zero] at h0
  rw [putM,if_pos h0,zuq g l]
  intro k hk
  obtain ⟨h1,h2,h3⟩:=h (k+1) (by simpa using hk)
  simp only [List.getElem_cons_succ] at h3
  exact ⟨by simpa using h1,hk,h3⟩
theorem z0h:∀ (g l:List Ent) (j:Nat),(∀ k,k < j→∃ h1:k < g.length,∃ h2:k < l.length,(g[k]'h1).term=(l[k]'h2).term)→(hj:j < l.length)→(∀ h1:j < g.length,(g[j]'h1).term ≠ (l[j]'hj).term)→putM g l=g.take j++l.drop j
 | g,[],j,_,hj,_=>by simp at hj
 | [],x :: l,0,_,_,_=>rfl
 | [],x :: l,j+1,h,_,_=>by obtain ⟨h1,_⟩:=h 0 (by omega);simp at h1
 | y :: g,x :: l,0,_,_,hn=>by
  have:=hn (by simp)
  simp only [List.getElem_cons_zero] at this
  rw [putM,if_neg this];rfl
 | y :: g,x :: l,j+1,h,hj,hn=>by
  obtain ⟨_,_,h0⟩:=h 0 (by omega)
  simp only [List.getElem_cons_zero] at h0
  rw [putM,if_pos h0,z0h g l j ?_ (by simpa using hj) ?_]
  ·rfl
  ·intro k hk
   obtain ⟨h1,h2,h3⟩:=h (k+1) (by omega)
   simp only [List.getElem_cons_succ] at h3
   exact ⟨by simpa using h1,by simpa using h2,h3⟩
  ·intro h1
   have:=hn (by simpa using h1)
   simpa using this
theorem zub {g l:List Ent}{n:Nat} (h:alike g n l l.length):putG g n l=g:=by
 unfold putG
 rw [zuq,List.take_append_drop]
 intro k hk
 obtain ⟨h1,h2,h3⟩:=h k hk
 exact ⟨by rw [List.length_drop];omega,h2,by rw [List.getElem_drop];exact h3⟩
theorem zs1 {g l:List Ent}{n j:Nat} (h:alike g n l j) (hn:n≤g.length) (hj:j < l.length) (hd:∀ h1:n+j < g.length,(g[n+j]'h1).term ≠ (l[j]'hj).term):putG g n l=g.take (n+j)++l.drop j:=by
 unfold putG
 rw [z0h (g.drop n) l j ?_ hj ?_,← List.append_assoc]
 ·congr 1
  rw [List.take_add]
 ·intro k hk
  obtain ⟨h1,h2,h3⟩:=h k hk
  exact ⟨by rw [List.length_drop];omega,h2,by rw [List.getElem_drop];exact h3⟩
 ·intro h1
  rw [List.getElem_drop]
  exact hd (by rw [List.length_drop] at h1;omega)
noncomputable def putHE (h:Hrd) (i:Int) (l:List Ent):Int:=if hardB h=true then (if (h.base≤i∧i≤lastI h)∧rowB l (zau h i) h.term=true then 0 else 1) else 6
theorem z1t {h:Hrd}{i:Int}{l:List Ent} (e:putHE h i l=0):hardB h=true∧(h.base≤i∧i≤lastI h)∧rowB l (zau h i) h.term=true:=by
 unfold putHE at e
 by_cases h1:hardB h=true
 ·rw [if_pos h1] at e
  by_cases h2:(h.base≤i∧i≤lastI h)∧rowB l (zau h i) h.term=true
  ·exact ⟨h1,h2⟩
  ·rw [if_neg h2] at e;omega
 ·rw [if_neg h1] at e;omega
def resV (e:Int) (x:Hrd):PV:=if e=0 then .tu [.ag (x.own 0),iv 0] else .tu [.ag hzv,iv e]
def resO (e:Int) (x:Hrd):List (Nat×List (List PV)):=if e=0 then x.obs else []
def resW (e:Int) (x:Hrd):PV:=if e=0 then .tu [.ag x.enc,iv 0] else .tu [.ag hzv,iv e]
theorem ctr_res {f:Nat}{ps:List PV}{e:Int}{x:Hrd} (h:Ctr Tryz.prog f ps (resV e x) (resO e x)):Ctr Tryz.prog f ps (resW e x) []:=by
 unfold resV resO at h
 unfold resW
 by_cases he:e=0
 ·rw [if_pos he,if_pos he] at h
  rw [if_pos he]
  refine h.frz (zat ?_)
  refine ⟨zao ?_,zae _ rfl,rfl⟩
  conv=>whnf
  repeat' (first | exact rfl | ((with_reducible refine And.intro ?_ ?_)<;>(first | (with_reducible exact zae _ rfl) | exact zba (b:=false) (List.Mem.head _) rfl | exact zba (b:=false) (List.Mem.tail _ (List.Mem.head _)) rfl | (conv=>whnf))))
 ·rw [if_neg he,if_neg he] at h
  rw [if_neg he]
  exact h
theorem zdt {e:Int}{x:Hrd} (he:e=0):resV e x=.tu [.ag (x.own 0),iv 0]∧resO e x=x.obs∧resW e x=.tu [.ag x.enc,iv 0]:=by
 subst he;exact ⟨rfl,rfl,rfl⟩
theorem zb9 {e:Int}{x:Hrd} (he:¬ e=0):resV e x=.tu [.ag hzv,iv e]∧resO e x=[]∧resW e x=.tu [.ag hzv,iv e]:=by
 unfold resV resO resW
 rw [if_neg he,if_neg he,if_neg he];exact ⟨rfl,rfl,rfl⟩
theorem zaq {h:Hrd} (e:hardB h=true):HardA h∧confB h.baseConf=true∧(h.snap.length≤16384∧(0 < h.base∨h.snap.length=0))∧rowB h.log h.baseTerm h.term=true:=by
 unfold hardB at e
 simp only [Bool.and_eq_true,decide_eq_true_eq] at e
 obtain ⟨e1,e2,e3,e4⟩:=e
 refine ⟨?_,e2,e3,e4⟩
 apply Classical.byContradiction
 intro hn
 rw [zla hn] at e1;cases e1
theorem zax {h:Hrd} (hb:0≤h.base) (hs:h.base+h.log.length < 9223372036854775808):lastI h=h.base+h.log.length:=by
 unfold lastI
 split
 ·omega
 ·exact zaf (by omega) (by omega)
theorem z0c (g:List Ent) (n:Nat) (l:List Ent):alike g n l 0:=fun k hk=>absurd hk (Nat.not_lt_zero _)
theorem zm0 {g:List Ent}{n:Nat}{l:List Ent}{j:Nat} (h:alike g n l j) (h1:n+j < g.length) (h2:j < l.length) (e:(g[n+j]'h1).term=(l[j]'h2).term):alike g n l (j+1):=by
 intro k hk
 by_cases ek:k=j
 ·subst ek;exact ⟨h1,h2,e⟩
 ·exact h k (by omega)
theorem ztr {g:List Ent}{n:Nat}{l:List Ent}{j:Nat} (h:alike g n l j) (hn:n≤g.length):n+j≤g.length:=by
 by_cases ek:j=0
 ·omega
 ·obtain ⟨h1,_⟩:=h (j - 1) (by omega);omega
theorem c_lPut (a : Hrd) (h1 : a.snap.length ≤ 4294967296) (h2 : a.log.length ≤ 4294967) (hb : isI a.base) (i : Int) (hi : isI i) (l : List Ent) (h3 : l.length ≤ 4294967) :
    Ctr Tryz.prog 211 [.ag a.enc,iv i,.sl 16 (l.map Ent.enc)] (resV (putHE a i l) (putH a i l)) (resO (putHE a i l) (putH a i l)):=by
 have hm:a.log.length≤maxLen:=zad (by omega)
 have hml:l.length≤maxLen:=zad (by omega)
 have hck:=zgv a hm
 by_cases hB:hardB a=true
 ·rw [hB] at hck
  simp only [if_true] at hck
  have hA:=(zaq hB).1
  have hb0:=hA.b
  have hla:lastI a=a.base+a.log.length:=zax hb0.1 (by omega)
  have hr:=zhd l hml (zau a i) a.term
  by_cases hk:(a.base≤i∧i≤lastI a)∧rowB l (zau a i) a.term=true
  ·have e:putHE a i l=0:=by unfold putHE;rw [if_pos hB,if_pos hk]
   rw [(zdt e).1,(zdt e).2.1]
   rw [hk.2] at hr
   obtain ⟨⟨hk1,hk2⟩,_⟩:=hk
   generalize hn:(i - a.base).toNat=n
   have hn':i - a.base=(n:Int):=by omega
   have hnl:n≤a.log.length:=by omega
   refine sBody Tryz.func211 ?_;conv=>whnf
   refine tC hck ?_
   refine tC (zc1 a hm) ?_
   refine tS ?_ ?_<;>intro h
   ·exfalso;omega
   refine tS ?_ ?_<;>intro h
   ·exfalso;omega
   refine tC (zm2 a hm hb i hi) ?_
   refine tC hr ?_
   refine tC (c_twin a h1 (by omega)) ?_
   refine tN2 ?_
   refine tFor (fun j:Nat=>j≤l.length∧alike a.log n l j) (fun j=>[(49,iv j)]) (fun _=>[(3,a.own 736),(6,hzv)]) (fun _=>[(736,some (false,1,a.snap.map encB)),(737,some (false,16,a.log.map Ent.enc))]) [(736,736),(737,737)] (fun j=>l.length - j) 0 ⟨Nat.zero_le _,z0c _ _ _⟩ ?_ ?_
   ·exact wkE
   rintro j ⟨hj,hal⟩
   have hle:=ztr hal hnl
   refine tS ?_ ?_<;>intro h
   ·simp only [List.length_map] at h
    have hlt:j < l.length:=by omega
    refine tAt (za3 hlt) ?_
    have e1:IntKind.i64.wrap (IntKind.i64.wrap (i - a.base)+(j:Int))=((n+j:Nat):Int):=by
     rw [hn',show IntKind.i64.wrap (n:Int)=(n:Int) from zaf (by omega) (by omega),zaf (by omega) (by omega)];omega
    rw [e1]
    refine tS ?_ ?_<;>intro h
    ·simp only [List.length_map] at h
     have hat:n+j < a.log.length:=by omega
     have hrow:(a.log.map Ent.enc)[0+((n+j:Nat):Int).toNat]?=some ((a.log[n+j]'hat).enc):=by
      rw [Nat.zero_add];exact za3 hat
     refine ⟨⟨by omega,by simp only [List.length_map];omega⟩,?_⟩
     conv=>whnf
     refine ⟨_,hrow,?_⟩
     refine tS ?_ ?_<;>intro h
     ·refine ⟨j+1,[(736,736),(737,737)],⟨⟨by omega,zm0 hal hat hlt h⟩,by omega⟩,?_⟩
      exact wkE
     ·have hd:∀ h1:n+j < a.log.length,(a.log[n+j]'h1).term ≠ (l[j]'hlt).term:=fun _=>h
      refine ⟨⟨by omega,by omega,by simp only [List.length_map];omega⟩,?_⟩
      conv=>whnf
      refine ⟨⟨by omega,by simp only [List.length_map];omega⟩,?_⟩
      conv=>whnf
      refine ⟨by kernel_rfl,?_⟩
      conv=>whnf
      rw [Int.toNat_natCast,Int.toNat_natCast]
      have er:List.drop j (List.take (((List.map Ent.enc l).length:Nat):Int).toNat (List.map Ent.enc l))=(l.drop j).map Ent.enc:=by rw [Int.toNat_natCast,List.take_length,List.map_drop]
      rw [er,show n+j - Int.toNat 0=n+j from rfl]
      refine ⟨⟨⟨by kernel_rfl,by rw [List.length_map];omega,small (by rw [List.length_map,List.length_drop];omega) (by kernel_rfl),zad (by rw [List.length_map,List.length_drop];omega),by intro r hr;obtain ⟨x,_,rfl⟩:=List.mem_map.1 hr;rfl⟩,by decide,rfl⟩,?_⟩
      conv=>whnf
      have ep:putH a i l={ a with log:=a.log.take (n+j)++l.drop j }:=by
       unfold putH;rw [hn,zs1 hal hnl hlt hd]
      rw [ep]
      refine zal [(0,736),(1,1328)] rfl ⟨rfl,?_,True.intro⟩ (zat ⟨zao ?_,zae _ rfl,rfl⟩)
      ·refine zbi (by kernel_rfl) ?_
       simp only [List.map_append,List.map_take]
      conv=>whnf
      repeat' (first | exact rfl | ((with_reducible refine And.intro ?_ ?_)<;>(first | (with_reducible exact zae _ rfl) | exact zas rfl rfl rfl | (refine zas rfl rfl ?_;simp only [List.map_append,List.length_append,List.length_map,List.length_take,Nat.min_eq_left hle];done) | (conv=>whnf))))
    ·simp only [List.length_map] at h
     have hat:¬ n+j < a.log.length:=by omega
     have hd:∀ h1:n+j < a.log.length,(a.log[n+j]'h1).term ≠ (l[j]'hlt).term:=fun h1=>absurd h1 hat
     refine ⟨⟨by omega,by omega,by simp only [List.length_map];omega⟩,?_⟩
     conv=>whnf
     refine ⟨⟨by omega,by simp only [List.length_map];omega⟩,?_⟩
     conv=>whnf
     refine ⟨by kernel_rfl,?_⟩
     conv=>whnf
     rw [Int.toNat_natCast,Int.toNat_natCast]
     have er:List.drop j (List.take (((List.map Ent.enc l).length:Nat):Int).toNat (List.map Ent.enc l))=(l.drop j).map Ent.enc:=by rw [Int.toNat_natCast,List.take_length,List.map_drop]
     rw [er,show n+j - Int.toNat 0=n+j from rfl]
     refine ⟨⟨⟨by kernel_rfl,by rw [List.length_map];omega,small (by rw [List.length_map,List.length_drop];omega) (by kernel_rfl),zad (by rw [List.length_map,List.length_drop];omega),by intro r hr;obtain ⟨x,_,rfl⟩:=List.mem_map.1 hr;rfl⟩,by decide,rfl⟩,?_⟩
     conv=>whnf
     have ep:putH a i l={ a with log:=a.log.take (n+j)++l.drop j }:=by
      unfold putH;rw [hn,zs1 hal hnl hlt hd]
     rw [ep]
     refine zal [(0,736),(1,1328)] rfl ⟨rfl,?_,True.intro⟩ (zat ⟨zao ?_,zae _ rfl,rfl⟩)
     ·refine zbi (by kernel_rfl) ?_
      simp only [List.map_append,List.map_take]
     conv=>whnf
     repeat' (first | exact rfl | ((with_reducible refine And.intro ?_ ?_)<;>(first | (with_reducible exact zae _ rfl) | exact zas rfl rfl rfl | (refine zas rfl rfl ?_;simp only [List.map_append,List.length_append,List.length_map,List.length_take,Nat.min_eq_left hle];done) | (conv=>whnf))))
   ·simp only [List.length_map] at h
    have ej:j=l.length:=by omega
    subst ej
    have ep:putH a i l=a:=by
     unfold putH;rw [hn,zub hal]
    rw [ep]
    refine zal [(0,736),(1,737)] rfl ⟨rfl,rfl,True.intro⟩ (zat ⟨zao ?_,zae _ rfl,rfl⟩)
    conv=>whnf
    repeat' (first | exact rfl | ((with_reducible refine And.intro ?_ ?_)<;>(first | (with_reducible exact zae _ rfl) | exact zas rfl rfl rfl | (conv=>whnf))))
  ·have e:putHE a i l=1:=by unfold putHE;rw [if_pos hB,if_neg hk]
   rw [e,(zb9 (by decide)).1,(zb9 (by decide)).2.1]
   refine sBody Tryz.func211 ?_;conv=>whnf
   refine tC hck ?_
   refine tC (zc1 a hm) ?_
   refine tS ?_ ?_<;>intro h
   ·exact zaa rfl rfl
   refine tS ?_ ?_<;>intro h
   ·exact zaa rfl rfl
   refine tC (zm2 a hm hb i hi) ?_
   have hf:rowB l (zau a i) a.term=false:=by
    cases hrb:rowB l (zau a i) a.term with
    | false=>rfl
    | true=>exact absurd ⟨⟨by omega,by omega⟩,hrb⟩ hk
   rw [hf] at hr
   refine tC hr ?_
   exact zaa rfl rfl
 ·have e:putHE a i l=6:=by unfold putHE;rw [if_neg hB]
  rw [e,(zb9 (by decide)).1,(zb9 (by decide)).2.1]
  simp only [Bool.not_eq_true] at hB
  rw [hB] at hck
  simp only [Bool.false_eq_true,if_false] at hck
  refine sBody Tryz.func211 ?_;conv=>whnf
  refine tC hck ?_
  exact zaa rfl rfl
theorem zpd:∀ (g l:List Ent) (k:Nat) (h:k < l.length),∃ a,(putM g l)[k]?=some a∧a.term=(l[k]'h).term
 | g,[],k,h=>by simp at h
 | [],x :: l,k,h=>⟨(x :: l)[k],by simp [putM,h],rfl⟩
 | y :: g,x :: l,k,h=>by
  by_cases e:y.term=x.term
  ·rw [putM,if_pos e]
   cases k with
   | zero=>exact ⟨y,rfl,e⟩
   | succ k =>
    obtain ⟨a,h1,h2⟩:=zpd g l k (by simpa using h)
    exact ⟨a,by simpa using h1,by simpa using h2⟩
  ·rw [putM,if_neg e]
   exact ⟨(x :: l)[k],by simp [h],rfl⟩
theorem zpk:∀ (g l:List Ent) (b t:Int),rowB g b t=true→rowB l b t=true→rowB (putM g l) b t=true
 | g,[],b,t,h,_=>by
  have:putM g []=g:=by cases g<;>rfl
  rw [this];exact h
 | [],x :: l,b,t,_,h=>by rw [putM];exact h
 | y :: g,x :: l,b,t,h1,h2=>by
  by_cases e:y.term=x.term
  ·rw [putM,if_pos e]
   simp only [rowB,Bool.and_eq_true] at h1 h2 ⊢
   exact ⟨h1.1,zpk g l y.term t h1.2 (by rw [e];exact h2.2)⟩
  ·rw [putM,if_neg e];exact h2
theorem zsz (x:Ent) (g:List Ent) (b:Int) (n:Nat):behind (x :: g) b (n+1)=behind g x.term n:=by
 cases n with
 | zero=>simp [behind]
 | succ n =>
  cases g with
  | nil=>simp [behind]
  | cons y g =>
   simp only [behind,List.take_succ_cons,List.getLast?_cons_cons]
   cases he:(y :: List.take n g).getLast? with
   | none=>simp at he
   | some z=>rfl
theorem zeq:∀ (g k:List Ent) (b t:Int),rowB (g++k) b t=(rowB g b t && rowB k (behind g b g.length) t)
 | [],k,b,t=>by simp [rowB,behind]
 | x :: g,k,b,t=>by
  simp only [List.cons_append,rowB,zeq g k,List.length_cons,zsz,Bool.and_assoc]
theorem zho (g:List Ent) (b:Int) (n:Nat) (hn:n≤g.length):behind (g.take n) b (g.take n).length=behind g b n:=by
 unfold behind
 rw [List.take_length]
theorem z0j {g l:List Ent}{b t:Int}{n:Nat} (hn:n≤g.length) (h1:rowB g b t=true) (h2:rowB l (behind g b n) t=true):rowB (putG g n l) b t=true:=by
 unfold putG
 have h:=h1
 rw [← List.take_append_drop n g,zeq,Bool.and_eq_true,zho g b n hn] at h
 rw [zeq,Bool.and_eq_true,zho g b n hn]
 exact ⟨h.1,zpk _ _ _ _ h.2 h2⟩
theorem zhw {h:Hrd}{j:Int}{m:Nat} (e:j=h.base+1+m):entAt h j=h.log[m]?:=by
 by_cases hm:m < h.log.length
 ·rw [zeo (by omega) (by omega),List.getElem?_eq_getElem hm]
  congr 2
  omega
 ·rw [zd1 (by omega),List.getElem?_eq_none (by omega)]
theorem zdy {h:Hrd}{j:Int}{n:Nat} (e:j=h.base+n) (hn:n≤h.log.length):zau h j=behind h.log h.baseTerm n:=by
 unfold zau
 cases n with
 | zero=>rw [if_pos (by omega),zek]
 | succ n =>
  rw [if_neg (by omega),zhw (m:=n) (by omega),List.getElem?_eq_getElem (by omega),zbd (by omega)]
theorem zhv (g l:List Ent) {n:Nat} (hn:n≤g.length):(putG g n l).take n=g.take n:=by
 unfold putG
 rw [List.take_append_of_le_length (by simp;omega),List.take_take,Nat.min_self]
theorem zhz (g l:List Ent) {n:Nat} (hn:n≤g.length):(putG g n l).drop n=putM (g.drop n) l:=by
 unfold putG
 rw [List.drop_append_of_le_length (by simp;omega),List.drop_eq_nil_of_le (by simp;omega),List.nil_append]
theorem zh9:∀ g l:List Ent,(putM g l).length≤g.length+l.length∧l.length≤(putM g l).length
 | g,[]=>by cases g<;>simp [putM]
 | [],x :: l=>by simp [putM]
 | y :: g,x :: l=>by
  have:=zh9 g l
  rw [putM]
  split<;>simp only [List.length_cons]<;>omega
theorem z1c (g l:List Ent) {n:Nat} (hn:n≤g.length):(putG g n l).length≤g.length+l.length:=by
 have:=(zh9 (g.drop n) l).1
 unfold putG
 rw [List.length_append,List.length_take]
 rw [List.length_drop] at this
 omega
structure PutOk (h:Hrd) (i:Int) (l:List Ent) (n:Nat):Prop where
 hard:hardB h=true
 at':i=h.base+n
 le:n≤h.log.length
 row:rowB l (behind h.log h.baseTerm n) h.term=true
theorem putOk {h:Hrd}{i:Int}{l:List Ent} (e:putHE h i l=0) (hl:h.log.length≤4294967):∃ n,PutOk h i l n:=by
 obtain ⟨h1,h2,h3⟩:=z1t e
 have hA:=(zaq h1).1
 have:=hA.b
 rw [zax this.1 (by omega)] at h2
 refine ⟨(i - h.base).toNat,h1,by omega,by omega,?_⟩
 rw [← zdy (h:=h) (j:=i) (by omega) (by omega)]
 exact h3
theorem PutOk.e {h:Hrd}{i:Int}{l:List Ent}{n:Nat} (k:PutOk h i l n) (hl:h.log.length≤4294967):putHE h i l=0:=by
 have hA:=(zaq k.hard).1
 have:=hA.b
 have:=k.at'
 have:=k.le
 unfold putHE
 rw [if_pos k.hard,if_pos]
 refine ⟨?_,?_⟩
 ·rw [zax (by omega) (by omega)];omega
 ·rw [zdy k.at' k.le];exact k.row
theorem PutOk.log {h:Hrd}{i:Int}{l:List Ent}{n:Nat} (k:PutOk h i l n):putH h i l={ h with log:=putG h.log n l }:=by
 have:=k.at'
 unfold putH
 rw [show (i - h.base).toNat=n by omega]
theorem zqo {h:Hrd} (e:hardB h=true) {g:List Ent} (hg:rowB g h.baseTerm h.term=true):hardB { h with log:=g }=true:=by
 obtain ⟨hA,h2,h3,_⟩:=zaq e
 unfold hardB
 rw [ze0 (show HardA { h with log:=g } from ⟨hA.t,hA.v,hA.b,hA.bt,hA.z⟩)]
 simp only [h2,hg,h3,Bool.and_true,Bool.true_and,decide_eq_true_eq]
 simp
theorem PutOk.right {h:Hrd}{i:Int}{l:List Ent}{n:Nat} (k:PutOk h i l n):hardB (putH h i l)=true:=by
 rw [k.log]
 exact zqo k.hard (z0j k.le (zaq k.hard).2.2.2 k.row)
theorem z35 (g:List Ent):putM g []=g:=by cases g<;>rfl
theorem zid (l:List Ent):putM [] l=l:=by cases l<;>rfl
theorem znl:∀ (g l:List Ent) (k:Nat),k≤l.length→(putM g (l.take k)).take k++putM ((putM g (l.take k)).drop k) (l.drop k)=putM g l
 | g,l,0,_=>by simp [z35]
 | g,[],k+1,h=>by simp at h
 | [],x :: l,k+1,h=>by
  have h':k≤l.length:=by simpa using h
  have h1:((x :: l).take (k+1)).length=k+1:=by simp;omega
  rw [zid,zid,List.take_take,Nat.min_self,List.drop_eq_nil_of_le (by omega),zid,List.take_append_drop]
 | y :: g,x :: l,k+1,h=>by
  have h':k≤l.length:=by simpa using h
  by_cases e:y.term=x.term
  ·rw [List.take_succ_cons,putM,if_pos e,List.take_succ_cons,List.drop_succ_cons,List.drop_succ_cons,List.cons_append,znl g l k h',putM,if_pos e]
  ·have h1:(x :: l.take k).length=k+1:=by simp;omega
   rw [List.take_succ_cons,putM,if_neg e,List.take_of_length_le (by omega),List.drop_eq_nil_of_le (by omega),zid,List.drop_succ_cons,List.cons_append,List.take_append_drop,putM,if_neg e]
theorem zv9 {g l:List Ent}{n k:Nat} (hn:n≤g.length) (hk:k≤l.length):putG (putG g n (l.take k)) (n+k) (l.drop k)=putG g n l:=by
 have h1:(g.take n).length=n:=by simp;omega
 show (putG g n (l.take k)).take (n+k)++putM ((putG g n (l.take k)).drop (n+k)) (l.drop k)=g.take n++putM (g.drop n) l
 rw [← znl (g.drop n) l k hk,List.take_add,zhv g _ hn,zhz g _ hn,List.append_assoc,← List.drop_drop,zhz g _ hn]
theorem zvv {g l:List Ent}{b:Int}{n k:Nat} (hn:n≤g.length) (hk:k≤l.length):behind (putG g n (l.take k)) b (n+k)=behind (l.take k) (behind g b n) (l.take k).length:=by
 have hl:(l.take k).length=k:=by simp;omega
 rw [hl]
 cases k with
 | zero =>
  rw [Nat.add_zero,zek]
  unfold behind
  rw [zhv g _ hn]
 | succ k =>
  have h3:=(zh9 (g.drop n) (l.take (k+1))).2
  have h4:n+k < (putG g n (l.take (k+1))).length:=by
   unfold putG
   rw [List.length_append,List.length_take];omega
  rw [show n+(k+1)=n+k+1 from rfl,zbd h4,zbd (by omega)]
  obtain ⟨a,h5,h6⟩:=zpd (g.drop n) (l.take (k+1)) k (by omega)
  rw [← h6]
  have h7:(putG g n (l.take (k+1)))[n+k]?=some a:=by
   rw [← List.getElem?_drop,zhz g _ hn,h5]
  rw [List.getElem?_eq_getElem h4,Option.some.injEq] at h7
  rw [h7]
theorem zmf {l:List Ent}{b t:Int} (h:rowB l b t=true) (k:Nat):rowB (l.take k) b t=true∧rowB (l.drop k) (behind (l.take k) b (l.take k).length) t=true:=by
 rw [← List.take_append_drop k l,zeq,Bool.and_eq_true] at h
 exact h
theorem PutOk.part {h:Hrd}{i:Int}{l:List Ent}{n k:Nat} (o:PutOk h i l n) (hk:k≤l.length):PutOk h i (l.take k) n∧PutOk (putH h i (l.take k)) (i+k) (l.drop k) (n+k)∧putH (putH h i (l.take k)) (i+k) (l.drop k)=putH h i l:=by
 obtain ⟨r1,r2⟩:=zmf o.row k
 have o1:PutOk h i (l.take k) n:=⟨o.hard,o.at',o.le,r1⟩
 have hr:=o1.right
 have hlog:=o1.log
 have ha:=o.at'
 have h3:=(zh9 (h.log.drop n) (l.take k)).2
 have h4:(l.take k).length=k:=by simp;omega
 have h5:n+k≤(putG h.log n (l.take k)).length:=by
  have:=o.le
  unfold putG
  rw [List.length_append,List.length_take];omega
 have o2:PutOk (putH h i (l.take k)) (i+k) (l.drop k) (n+k):=⟨hr,by show i+k=h.base+((n+k:Nat):Int);omega,by rw [hlog];exact h5,by
  rw [hlog]
  show rowB (l.drop k) (behind (putG h.log n (l.take k)) h.baseTerm (n+k)) h.term=true
  rw [zvv o.le hk];exact r2⟩
 refine ⟨o1,o2,?_⟩
 rw [o2.log,o.log,hlog]
 simp only [zv9 o.le hk]
def fromL (h:Hrd) (i m:Int):List Ent:=if h.base < i∧1≤m then (h.log.drop (i - h.base - 1).toNat).take m.toNat else []
theorem zv5 {h:Hrd}{i m:Int} (he:entAt h i=none):fromL h i m=[]:=by
 unfold fromL
 split
 ·rename_i hc
  by_cases h2:i - h.base≤h.log.length
  ·rw [zeo hc.1 h2] at he;cases he
  ·rw [List.drop_eq_nil_of_le (by omega),List.take_nil]
 ·rfl
theorem zyf {h:Hrd}{i m:Int} (hm:m < 1):fromL h i m=[]:=by
 unfold fromL;rw [if_neg (by omega)]
theorem zqz {h:Hrd}{i:Int}{x:Ent} (he:entAt h i=some x):h.base < i∧i - h.base≤h.log.length:=by
 unfold entAt at he
 split at he
 ·assumption
 ·cases he
theorem c_lFrom (a:Hrd) (hl:a.log.length≤4294967296) (hb:isI a.base) (i:Int) (hi:isI i) (m:Int):Ctr Tryz.prog 205 [.ag a.enc,iv i,iv m] (.ow 0 0 ((fromL a i m).map Ent.enc).length) [(16,(fromL a i m).map Ent.enc)]:=by
 have c0:=zy0 a (zad hl) hb i hi
 unfold isI at hb hi
 refine sBody Tryz.func205 ?_;conv=>whnf
 refine tC c0 ?_
 cases he:entAt a i with
 | none =>
  conv=>whnf
  rw [zv5 he]
  exact zg6 16
 | some x =>
  refine tS ?_ ?_<;>intro h
  ·rw [zyf h]
   exact zg6 16
  obtain ⟨h1,h2⟩:=zqz he
  obtain ⟨q,hq,hql⟩:∃ q:Nat,i - a.base - 1=q∧q≤a.log.length:=⟨(i - a.base - 1).toNat,by omega,by omega⟩
  have e1:IntKind.i64.wrap (IntKind.i64.wrap (i - a.base) - 1)=(q:Int):=by
   rw [show IntKind.i64.wrap (i - a.base)=i - a.base from zaf (by omega) (by omega),zaf (by omega) (by omega),hq]
  rw [e1]
  refine ⟨⟨by omega,by rw [List.length_map];omega⟩,?_⟩
  conv=>whnf
  have e2:List.drop (q:Int).toNat (List.take (((a.log.map Ent.enc).length:Nat):Int).toNat (a.log.map Ent.enc))=(a.log.drop q).map Ent.enc:=by rw [Int.toNat_natCast,Int.toNat_natCast,List.take_length,List.map_drop]
  rw [e2]
  have e3:fromL a i m=(a.log.drop q).take m.toNat:=by
   unfold fromL;rw [if_pos ⟨h1,by omega⟩,hq,Int.toNat_natCast]
  rw [e3]
  generalize hD:a.log.drop q=D
  have hDl:D.length≤4294967296:=by rw [← hD,List.length_drop];omega
  obtain ⟨r,hr,hrt,hrl⟩:∃ r:Nat,(if (((D.map Ent.enc).length:Nat):Int) < m then (((D.map Ent.enc).length:Nat):Int) else m)=(r:Int)∧D.take m.toNat=D.take r∧r≤D.length:=by
   rw [List.length_map]
   by_cases hc:(D.length:Int) < m
   ·refine ⟨D.length,by rw [if_pos hc],?_,Nat.le_refl _⟩
    rw [List.take_length,List.take_of_length_le (by omega)]
   ·exact ⟨m.toNat,by rw [if_neg hc];omega,rfl,by omega⟩
  rw [hr,hrt]
  refine ⟨⟨by omega,by omega,by rw [List.length_map];omega⟩,?_⟩
  conv=>whnf
  refine Exists.intro none ?_
  conv=>whnf
  have e4:List.drop (Int.toNat 0) (List.take (r:Int).toNat (D.map Ent.enc))=(D.take r).map Ent.enc:=by rw [Int.toNat_natCast,List.map_take];rfl
  rw [e4]
  have c1:=zb7 (D.take r) (by rw [List.length_take];omega)
  refine tC c1 ?_
  refine tN1 ?_
  exact zal [(0,576)] rfl ⟨rfl,True.intro⟩ (zas rfl rfl rfl)
theorem z1w (a:Hrd) (hl:a.log.length≤4294967296) (hb:isI a.base) (i:Int) (hi:isI i) (m:Int):Ctr Tryz.prog 205 [.ag a.enc,iv i,iv m] (.sl 16 ((fromL a i m).map Ent.enc)) [] :=
 (c_lFrom a hl hb i hi m).frz (zba (.head _) rfl)
theorem z3c {h:Hrd}{i m:Int} (hi:h.base < i) (hm:0≤m):fromL h i m=(h.log.drop (i - h.base - 1).toNat).take m.toNat:=by
 unfold fromL
 by_cases h1:1≤m
 ·rw [if_pos ⟨hi,h1⟩]
 ·rw [if_neg (by omega),show m.toNat=0 by omega];rfl
noncomputable def compE (h:Hrd) (i:Int) (s:List Int):Int:=if hardB h=true then (if h.base < i∧i≤lastI h∧i≤1099511627776 then (if 16384 < s.length then 2 else 0) else 1) else 6
def compH (h:Hrd) (i:Int) (s:List Int):Hrd:=⟨h.term,h.vote,i,zau h i,(force h i).1,s,h.log.drop (i - h.base).toNat⟩
theorem zqy (a : Hrd) (h2 : a.log.length ≤ 4294967) (hb : isI a.base) (i : Int) (hi : isI i) (s : List Int) (h3 : s.length ≤ 4294967296) :
    Ctr Tryz.prog 175 [.ag a.enc,iv i,.sl 1 (s.map encB)] (resV (compE a i s) (compH a i s)) (resO (compE a i s) (compH a i s)):=by
 have hm:a.log.length≤maxLen:=zad (by omega)
 have hck:=zgv a hm
 by_cases hB:hardB a=true
 ·rw [hB] at hck
  simp only [if_true] at hck
  have hb0:=(zaq hB).1.b
  have hla:lastI a=a.base+a.log.length:=zax hb0.1 (by omega)
  have kT:=zm2 a hm hb i hi
  unfold isI at hi
  by_cases hk:a.base < i∧i≤lastI a∧i≤1099511627776
  ·by_cases hs:16384 < s.length
   ·have e:compE a i s=2:=by unfold compE;rw [if_pos hB,if_pos hk,if_pos hs]
    rw [e,(zb9 (by decide)).1,(zb9 (by decide)).2.1]
    refine sBody Tryz.func175 ?_;conv=>whnf
    refine tC hck ?_
    refine tC (zc1 a hm) ?_
    refine tS ?_ ?_<;>intro h
    ·exfalso;omega
    refine tS ?_ ?_<;>intro h
    ·exfalso;split at h<;>omega
    refine tS ?_ ?_<;>intro h
    ·exact zaa rfl rfl
    ·exfalso
     simp only [List.length_map] at h
     omega
   ·have e:compE a i s=0:=by unfold compE;rw [if_pos hB,if_pos hk,if_neg hs]
    rw [e,(zdt rfl).1,(zdt rfl).2.1]
    refine sBody Tryz.func175 ?_;conv=>whnf
    refine tC hck ?_
    refine tC (zc1 a hm) ?_
    refine tS ?_ ?_<;>intro h
    ·exfalso;omega
    refine tS ?_ ?_<;>intro h
    ·exfalso;split at h<;>omega
    refine tS ?_ ?_<;>intro h
    ·exfalso
     simp only [List.length_map] at h
     omega
    refine tC (zkd a hm i) ?_
    refine tC kT ?_
    refine tC (zcn s h3) ?_
    refine tN1 ?_
    obtain ⟨q,hq,hql⟩:∃ q:Nat,i - a.base=q∧q≤a.log.length:=⟨(i - a.base).toNat,by omega,by omega⟩
    have e1:IntKind.i64.wrap (i - a.base)=(q:Int):=by rw [zaf (by omega) (by omega),hq]
    rw [e1]
    refine ⟨⟨by omega,by rw [List.length_map];omega,Int.le_refl _⟩,?_⟩
    conv=>whnf
    refine Exists.intro none ?_
    conv=>whnf
    have e2:List.drop (q:Int).toNat (List.take (((a.log.map Ent.enc).length:Nat):Int).toNat (a.log.map Ent.enc))=(a.log.drop q).map Ent.enc:=by rw [Int.toNat_natCast,Int.toNat_natCast,List.take_length,List.map_drop]
    rw [e2]
    have c1:=zb7 (a.log.drop q) (by rw [List.length_drop];omega)
    refine tC c1 ?_
    refine tN1 ?_
    rw [show compH a i s=⟨a.term,a.vote,i,zau a i,(force a i).1,s,a.log.drop q⟩ from by unfold compH;rw [hq,Int.toNat_natCast]]
    refine zal [(0,944),(1,1072)] rfl ⟨rfl,rfl,True.intro⟩ (zat ⟨zao ?_,zae _ rfl,rfl⟩)
    conv=>whnf
    repeat' (first | exact rfl | ((with_reducible refine And.intro ?_ ?_)<;>(first | (with_reducible exact zae _ rfl) | exact zas rfl rfl rfl | (conv=>whnf))))
  ·have e:compE a i s=1:=by unfold compE;rw [if_pos hB,if_neg hk]
   rw [e,(zb9 (by decide)).1,(zb9 (by decide)).2.1]
   refine sBody Tryz.func175 ?_;conv=>whnf
   refine tC hck ?_
   refine tC (zc1 a hm) ?_
   refine tS ?_ ?_<;>intro h
   ·exact zaa rfl rfl
   refine tS ?_ ?_<;>intro h
   ·exact zaa rfl rfl
   ·exfalso
    split at h<;>omega
 ·have e:compE a i s=6:=by unfold compE;rw [if_neg hB]
  rw [e,(zb9 (by decide)).1,(zb9 (by decide)).2.1]
  simp only [Bool.not_eq_true] at hB
  rw [hB] at hck
  simp only [Bool.false_eq_true,if_false] at hck
  refine sBody Tryz.func175 ?_;conv=>whnf
  refine tC hck ?_
  refine tC (zc1 a hm) ?_
  exact zaa rfl rfl
noncomputable def instE (h:Hrd) (i t:Int) (c:Conf) (s:List Int):Int:=if hardB h=true then (if (h.base < i∧i≤1099511627776)∧(1≤t∧t≤h.term∧h.baseTerm≤t) then (if confB c=true then (if 16384 < s.length then 2 else 0) else 14) else 1) else 6
def instH (h:Hrd) (i t:Int) (c:Conf) (s:List Int):Hrd:=⟨h.term,h.vote,i,t,c,s,if fits h i t=true then h.log.drop (i - h.base).toNat else []⟩
abbrev Hrd.own0 (x:Hrd) (k:Nat):List PV:=[iv x.term,iv x.vote,iv x.base,iv x.baseTerm,iv x.baseConf.full,iv x.baseConf.wit,iv x.baseConf.learn,iv x.baseConf.lwit,.ow k 0 (x.snap.map encB).length,.nl]
theorem ziw {a:Hrd}{i t:Int} (ht:t ≠ -1) (hf:fits a i t=true) (hi:a.base < i):i - a.base≤a.log.length:=by
 unfold fits at hf
 simp only [Bool.and_eq_true,beq_iff_eq] at hf
 have h2:=hf.2
 unfold zau at h2
 rw [if_neg (by omega)] at h2
 cases he:entAt a i with
 | none=>rw [he] at h2;simp only at h2;omega
 | some x=>exact (zqz he).2
theorem zy7 (a : Hrd) (h2 : a.log.length ≤ 4294967) (hb : isI a.base) (i : Int) (hi : isI i) (t : Int) (c : Conf) (s : List Int) (h3 : s.length ≤ 4294967296) :
    if instE a i t c s=0 then
     (if fits a i t=true then Ctr Tryz.prog 189 [.ag a.enc,iv i,iv t,.ag c.enc,.sl 1 (s.map encB)] (.tu [.ag ((instH a i t c s).own 0),iv 0]) (instH a i t c s).obs
      else Ctr Tryz.prog 189 [.ag a.enc,iv i,iv t,.ag c.enc,.sl 1 (s.map encB)] (.tu [.ag ((instH a i t c s).own0 0),iv 0]) [(1,s.map encB)])
    else Ctr Tryz.prog 189 [.ag a.enc,iv i,iv t,.ag c.enc,.sl 1 (s.map encB)] (.tu [.ag hzv,iv (instE a i t c s)]) []:=by
 have hm:a.log.length≤maxLen:=zad (by omega)
 have hck:=zgv a hm
 by_cases hB:hardB a=true
 ·rw [hB] at hck
  simp only [if_true] at hck
  have hb0:=(zaq hB).1.b
  have kF:=zs6 a hm hb i hi t
  have hcc:=zhl c
  unfold isI at hi
  by_cases hk:(a.base < i∧i≤1099511627776)∧(1≤t∧t≤a.term∧a.baseTerm≤t)
  ·by_cases hC:confB c=true
   ·rw [hC] at hcc
    simp only [if_true] at hcc
    by_cases hs:16384 < s.length
    ·have e:instE a i t c s=2:=by unfold instE;rw [if_pos hB,if_pos hk,if_pos hC,if_pos hs]
     rw [e,if_neg (by decide)]
     refine sBody Tryz.func189 ?_;conv=>whnf
     refine tC hck ?_
     repeat' (first | (refine tK ?_;(conv=>whnf)) | fail)
     refine tC hcc ?_
     refine tS ?_ ?_<;>intro h
     ·exact zaa rfl rfl
     ·exfalso
      simp only [List.length_map] at h
      omega
    ·have e:instE a i t c s=0:=by unfold instE;rw [if_pos hB,if_pos hk,if_pos hC,if_neg hs]
     rw [if_pos e]
     cases hf:fits a i t with
     | true =>
      rw [if_pos rfl]
      rw [hf] at kF
      have hin:=ziw (by omega) hf hk.1.1
      obtain ⟨q,hq,hql⟩:∃ q:Nat,i - a.base=q∧q≤a.log.length:=⟨(i - a.base).toNat,by omega,by omega⟩
      have e1:IntKind.i64.wrap (i - a.base)=(q:Int):=by rw [zaf (by omega) (by omega),hq]
      have e2:List.drop (q:Int).toNat (List.take (((a.log.map Ent.enc).length:Nat):Int).toNat (a.log.map Ent.enc))=(a.log.drop q).map Ent.enc:=by rw [Int.toNat_natCast,Int.toNat_natCast,List.take_length,List.map_drop]
      have c1:=zb7 (a.log.drop q) (by rw [List.length_drop];omega)
      rw [show instH a i t c s=⟨a.term,a.vote,i,t,c,s,a.log.drop q⟩ from by unfold instH;rw [hf,if_pos rfl,hq,Int.toNat_natCast]]
      refine sBody Tryz.func189 ?_;conv=>whnf
      refine tC hck ?_
      repeat' (first | (refine tK ?_;(conv=>whnf)) | fail)
      refine tC hcc ?_
      refine tS ?_ ?_<;>intro h
      ·exfalso
       simp only [List.length_map] at h
       omega
      refine tC (zcn s h3) ?_
      refine tN1 ?_
      refine tC kF ?_
      rw [e1]
      refine ⟨⟨by omega,by rw [List.length_map];omega,Int.le_refl _⟩,?_⟩
      conv=>whnf
      refine Exists.intro none ?_
      conv=>whnf
      rw [e2]
      refine tC c1 ?_
      refine tN1 ?_
      refine zal [(0,992),(1,1264)] rfl ⟨rfl,rfl,True.intro⟩ (zat ⟨zao ?_,zae _ rfl,rfl⟩)
      conv=>whnf
      repeat' (first | exact rfl | ((with_reducible refine And.intro ?_ ?_)<;>(first | (with_reducible exact zae _ rfl) | exact zas rfl rfl rfl | (conv=>whnf))))
     | false =>
      rw [if_neg (by decide)]
      rw [hf] at kF
      rw [show instH a i t c s=⟨a.term,a.vote,i,t,c,s,[]⟩ from by unfold instH;rw [hf,if_neg (by decide)]]
      refine sBody Tryz.func189 ?_;conv=>whnf
      refine tC hck ?_
      repeat' (first | (refine tK ?_;(conv=>whnf)) | fail)
      refine tC hcc ?_
      refine tS ?_ ?_<;>intro h
      ·exfalso
       simp only [List.length_map] at h
       omega
      refine tC (zcn s h3) ?_
      refine tN1 ?_
      refine tC kF ?_
      refine zal [(0,992)] rfl ⟨rfl,True.intro⟩ (zat ⟨zao ?_,zae _ rfl,rfl⟩)
      conv=>whnf
      repeat' (first | exact rfl | ((with_reducible refine And.intro ?_ ?_)<;>(first | (with_reducible exact zae _ rfl) | exact zas rfl rfl rfl | (conv=>whnf))))
   ·have e:instE a i t c s=14:=by unfold instE;rw [if_pos hB,if_pos hk,if_neg hC]
    simp only [Bool.not_eq_true] at hC
    rw [hC] at hcc
    simp only [Bool.false_eq_true,if_false] at hcc
    rw [e,if_neg (by decide)]
    refine sBody Tryz.func189 ?_;conv=>whnf
    refine tC hck ?_
    repeat' (first | (refine tK ?_;(conv=>whnf)) | fail)
    refine tC hcc ?_
    exact zaa rfl rfl
  ·have e:instE a i t c s=1:=by unfold instE;rw [if_pos hB,if_neg hk]
   rw [e,if_neg (by decide)]
   refine sBody Tryz.func189 ?_;conv=>whnf
   refine tC hck ?_
   repeat' (first | (refine tS ?_ ?_<;>intro h) | fail)
   all_goals first
    | exact zaa rfl rfl
    | (exfalso;omega)
 ·have e:instE a i t c s=6:=by unfold instE;rw [if_neg hB]
  rw [e,if_neg (by decide)]
  simp only [Bool.not_eq_true] at hB
  rw [hB] at hck
  simp only [Bool.false_eq_true,if_false] at hck
  refine sBody Tryz.func189 ?_;conv=>whnf
  refine tC hck ?_
  exact zaa rfl rfl
theorem zwu (a : Hrd) (h2 : a.log.length ≤ 4294967) (hb : isI a.base) (i : Int) (hi : isI i) (s : List Int) (h3 : s.length ≤ 4294967296) :
    Ctr Tryz.prog 175 [.ag a.enc,iv i,.sl 1 (s.map encB)] (resW (compE a i s) (compH a i s)) []:=ctr_res (zqy a h2 hb i hi s h3)
theorem zva (a : Hrd) (h2 : a.log.length ≤ 4294967) (hb : isI a.base) (i : Int) (hi : isI i) (t : Int) (c : Conf) (s : List Int) (h3 : s.length ≤ 4294967296) :
    Ctr Tryz.prog 189 [.ag a.enc,iv i,iv t,.ag c.enc,.sl 1 (s.map encB)] (resW (instE a i t c s) (instH a i t c s)) []:=by
 have k:=zy7 a h2 hb i hi t c s h3
 by_cases e:instE a i t c s=0
 ·rw [if_pos e] at k
  rw [(zdt e).2.2]
  cases hf:fits a i t with
  | true =>
   rw [hf,if_pos rfl] at k
   refine k.frz (zat ⟨zao ?_,zae _ rfl,rfl⟩)
   conv=>whnf
   repeat' (first | exact rfl | ((with_reducible refine And.intro ?_ ?_)<;>(first | (with_reducible exact zae _ rfl) | exact zba (b:=false) (List.Mem.head _) rfl | exact zba (b:=false) (List.Mem.tail _ (List.Mem.head _)) rfl | (conv=>whnf))))
  | false =>
   rw [hf,if_neg (by decide)] at k
   have e0:instH a i t c s=⟨a.term,a.vote,i,t,c,s,[]⟩:=by unfold instH;rw [hf,if_neg (by decide)]
   rw [e0] at k ⊢
   refine k.frz (zat ⟨zao ?_,zae _ rfl,rfl⟩)
   conv=>whnf
   repeat' (first | exact rfl | ((with_reducible refine And.intro ?_ ?_)<;>(first | (with_reducible exact zae _ rfl) | exact zba (b:=false) (List.Mem.head _) rfl | exact .inr (.inl ⟨rfl,rfl⟩) | (conv=>whnf))))
 ·rw [if_neg e] at k
  rw [(zb9 e).2.2]
  exact k
end Go.Proofs
