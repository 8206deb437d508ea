import Derived.Test.YtbhfokahocgndabGreatC1
import Derived.Test.YtbhfokahocgndabGreatC13
import Derived.Test.YtbhfokahocgndabGreatC5
/- Contracts of functions: logs that match, that agree (the program's). -/
set_option linter.unusedSimpArgs false
set_option linter.unusedVariables false
namespace Go.Proofs
open Go.Pv
set_option maxRecDepth 100000
structure Rft.small (r:Rft):Prop where
 log:r.hard.log.length≤4294967296
 base:isI r.hard.base
 snap:r.hard.snap.length≤4294967296
 reads:r.reads.length≤4294967296
theorem Rft.small.len {r:Rft} (h:r.small):r.hard.log.length≤maxLen:=zak h.log
theorem zbw {kb:List Nat}{rn:List (Nat×Nat)}{fz:List (Nat×Bool×Nat×List (List PV))}{k n:Nat}{b:Bool}{sz:Nat}{rows:List (List PV)} (h:(k,b,sz,rows) ∈ fz) (hn:n=rows.length):WkV kb rn fz (.ow k 0 n) (.sl sz rows):=by
 subst hn
 simp only [WkV]
 exact .inr (.inr ⟨k,0,_,b,rows,rfl,h,by omega,by simp⟩)
theorem zao (r:Rft) (h:r.small):Ctr Tryz.prog 32 [.ag r.enc] (.ag r.enc) []:=by
 refine Ctr.frz (zkq r h.snap h.log h.reads) (zag ?_)
 conv=>whnf
 repeat' (first | exact rfl | ((with_reducible refine And.intro ?_ ?_)<;>(first | (with_reducible exact zaj _ rfl) | exact zbw (b:=false) (List.Mem.head _) rfl | exact zbw (b:=false) (List.Mem.tail _ (List.Mem.head _)) rfl | exact zbw (b:=false) (List.Mem.tail _ (List.Mem.tail _ (List.Mem.head _))) rfl | (conv=>whnf))))
noncomputable def callR (c:VCall):Int:=if c.client < 1∨4 < c.client∨c.seq < 1∨1099511627776 < c.seq then 1 else cmdR c.cmd
theorem zji (c:VCall):Ctr Tryz.prog 167 [.ag c.enc] (iv (callR c)) []:=by
 refine sBody Tryz.func167 ?_;conv=>whnf
 repeat' (first | (refine tSp (fun h=>?_) (fun h=>?_)<;>conv=>whnf) | ((try (refine Exists.intro none ?_;conv=>whnf));(with_reducible refine zaa (c_rCmd c.cmd) ?_);conv=>whnf))
 all_goals (refine zab rfl (congrArg (fun n:Int=>iv n) ?_))
 all_goals (unfold callR)
 all_goals (try simp_all)
 all_goals (try ((repeat' split)<;>first | omega | simp_all | skip))
theorem zlr (a b:Int):Ctr Tryz.prog 183 [iv a,iv b] (bv (decide (¬ (a < 1∨4 < a∨b < 1∨1099511627776 < b)))) []:=by
 refine sBody Tryz.func183 ?_;conv=>whnf
 repeat' (refine tSp (fun h=>?_) (fun h=>?_)<;>conv=>whnf)
 all_goals (refine zab rfl (congrArg (fun n:Bool=>bv n) ?_))
 all_goals (try simp_all)
 all_goals (try omega)
theorem zqc (c:VCall):Ctr Tryz.prog 127 [.ag c.enc] (iv (callR c)) []:=by
 refine sBody Tryz.func127 ?_;conv=>whnf
 ((try (refine Exists.intro none ?_;conv=>whnf));(with_reducible refine zaa (zlr c.client c.seq) ?_);conv=>whnf)
 repeat' (first | (refine tSp (fun h=>?_) (fun h=>?_)<;>conv=>whnf) | ((try (refine Exists.intro none ?_;conv=>whnf));(with_reducible refine zaa (zwe c.cmd) ?_);conv=>whnf))
 all_goals (refine zab rfl (congrArg (fun n:Int=>iv n) ?_))
 all_goals (unfold callR)
 ·rw [if_pos (by simp at h;omega)]
 ·rw [if_neg (by simp at h;omega)]
noncomputable def zeroC (c:VCall):Bool:=decide (c.client=0∧c.seq=0∧c.cmd.kind=0∧c.cmd.key=bz) && (zeroV c.cmd.old && zeroV c.cmd.val)
theorem zm1 (v:VVal):v.nrm=vz.nrm ↔ zeroV v=true:=by
 rw [VVal.nrm_eq,zld,zeroV,decide_eq_true_eq]
theorem zw4 (c:VCall):c.nrm=kz.nrm ↔ zeroC c=true:=by
 rw [VCall.nrm_eq,VCmd.nrm_eq,zeroC,Bool.and_eq_true,Bool.and_eq_true,decide_eq_true_eq,← zm1,← zm1]
 constructor
 ·rintro ⟨h1,h2,h3,h4,h5,h6⟩;exact ⟨⟨h1,h2,h3,h4⟩,h5,h6⟩
 ·rintro ⟨⟨h1,h2,h3,h4⟩,h5,h6⟩;exact ⟨h1,h2,h3,h4,h5,h6⟩
theorem zr5 (c:VCall):Ctr Tryz.prog 228 [.ag c.enc] (bv (zeroC c)) []:=by
 refine sBody Tryz.func228 ?_;conv=>whnf
 ((try (refine Exists.intro none ?_;conv=>whnf));(with_reducible refine zaa (c_kCall c kz) ?_);conv=>whnf)
 refine zab rfl (congrArg (fun n:Bool=>bv n) ?_)
 rw [Bool.eq_iff_iff,decide_eq_true_eq,zw4]
theorem zr8 (c:Conf):Ctr Tryz.prog 229 [.ag c.enc] (bv (decide (c=cz))) []:=by
 refine sBody Tryz.func229 ?_;conv=>whnf
 ((try (refine Exists.intro none ?_;conv=>whnf));(with_reducible refine zaa (zi2 c cz) ?_);conv=>whnf)
 exact zab rfl rfl
theorem zyj (c:VCall):Ctr Tryz.prog 206 [.ag c.enc] (bv (zeroC c)) []:=by
 refine sBody Tryz.func206 ?_;conv=>whnf
 repeat' (first | (refine tSp (fun h=>?_) (fun h=>?_)<;>conv=>whnf) | ((try ((refine Exists.intro none ?_);(conv=>whnf)));first | ((with_reducible refine zaa (zne c.cmd.old) ?_);conv=>whnf) | ((with_reducible refine zaa (zne c.cmd.val) ?_);conv=>whnf)))
 all_goals (refine zab rfl (congrArg (fun n:Bool=>bv n) ?_))
 all_goals (unfold zeroC)
 all_goals (simp_all [zit])
noncomputable def zds (x:Ent):Bool :=
 if x.kind=0 then zeroC x.call && decide (x.conf=cz) else
 if x.kind=1 then decide (callR x.call=0) && decide (x.conf=cz) else
 if x.kind=2 then zeroC x.call && confB x.conf else false
theorem zx1 (x:Ent):Ctr Tryz.prog 219 [.ag x.enc] (bv (zds x)) []:=by
 refine sBody Tryz.func219 ?_;conv=>whnf
 repeat' (first | (refine tSp (fun h=>?_) (fun h=>?_)<;>conv=>whnf) | ((try ((refine Exists.intro none ?_);(conv=>whnf)));first | ((with_reducible refine zaa (zr5 x.call) ?_);conv=>whnf) | ((with_reducible refine zaa (zr8 x.conf) ?_);conv=>whnf) | ((with_reducible refine zaa (zji x.call) ?_);conv=>whnf) | ((with_reducible refine zaa (zhx x.conf) ?_);conv=>whnf)))
 all_goals (refine zab rfl (congrArg (fun n:Bool=>bv n) ?_))
 all_goals (unfold zds)
 all_goals (try simp_all)
theorem znl (x:Ent):Ctr Tryz.prog 182 [.ag x.enc] (bv (zds x)) []:=by
 refine sBody Tryz.func182 ?_;conv=>whnf
 repeat' (first | (refine tSp (fun h=>?_) (fun h=>?_)<;>conv=>whnf) | ((try ((refine Exists.intro none ?_);(conv=>whnf)));first | ((with_reducible refine zaa (zyj x.call) ?_);conv=>whnf) | ((with_reducible refine zaa (zqc x.call) ?_);conv=>whnf) | ((with_reducible refine zaa (zo6 x.conf) ?_);conv=>whnf)) | (refine ⟨eqOk23,_,eqConf x.conf cz,?_⟩;conv=>whnf))
 all_goals (refine zab rfl (congrArg (fun n:Bool=>bv n) ?_))
 all_goals (unfold zds)
 all_goals (try simp_all)
 all_goals (cases confB x.conf<;>simp)
noncomputable def rowB:List Ent→Int→Int→Bool
 | [],_,_=>true
 | x :: l,b,t=>(decide (max b 1≤x.term∧x.term≤t) && zds x) && rowB l x.term t
def zbc (l:List Ent) (b:Int) (i:Nat):Int:=match (l.take i).getLast? with
 | none=>b
 | some x=>x.term
theorem zei (l:List Ent) (b:Int):zbc l b 0=b:=by simp [zbc]
theorem zbr {l:List Ent}{b:Int}{i:Nat} (h:i < l.length):zbc l b (i+1)=(l[i]'h).term:=by
 have e:(l.take (i+1)).getLast?=some (l[i]'h):=by rw [List.take_succ_eq_append_getElem h,List.getLast?_append];rfl
 unfold zbc
 rw [e]
theorem zej:∀ (l:List Ent) (b t:Int),rowB l b t=true ↔ ∀ i (h:i < l.length),max (zbc l b i) 1≤(l[i]'h).term∧(l[i]'h).term≤t∧zds (l[i]'h)=true
 | [],b,t=>by simp [rowB]
 | x :: l,b,t=>by
  simp only [rowB,Bool.and_eq_true,decide_eq_true_eq,zej l x.term t]
  constructor
  ·rintro ⟨⟨⟨h1,h2⟩,h3⟩,h4⟩ i hi
   cases i with
   | zero=>rw [zei];exact ⟨h1,h2,h3⟩
   | succ i =>
    have:=h4 i (by simpa using hi)
    have e:zbc (x :: l) b (i+1)=zbc l x.term i:=by
     cases i with
     | zero=>rw [zei,zbr (by simp)];simp
     | succ i=>rw [zbr (by simp at hi ⊢;omega),zbr (by simp at hi;omega)];simp
    rw [e];simpa using this
  ·intro h
   have h0:=h 0 (by simp)
   rw [zei] at h0
   refine ⟨⟨⟨h0.1,h0.2.1⟩,h0.2.2⟩,fun i hi=>?_⟩
   have:=h (i+1) (by simpa using hi)
   have e:zbc (x :: l) b (i+1)=zbc l x.term i:=by
    cases i with
    | zero=>rw [zei,zbr (by simp)];simp
    | succ i=>rw [zbr (by simp;omega),zbr (by omega)];simp
   rw [e] at this;simpa using this
theorem zcr (n lo hi:Int):Ctr Tryz.prog 73 [iv n,iv lo,iv hi] (bv (decide (lo≤n∧n≤hi))) []:=by
 refine sBody Tryz.func73 ?_;conv=>whnf
 repeat' (refine tSp (fun h=>?_) (fun h=>?_)<;>conv=>whnf)
 all_goals (refine zab rfl (congrArg (fun b:Bool=>bv b) ?_))
 all_goals (try simp_all)
 all_goals (try omega)
theorem c_row (l:List Ent) (hm:l.length≤maxLen) (b t:Int):Ctr Tryz.prog 202 [.sl 16 (l.map Ent.enc),iv b,iv t] (bv (rowB l b t)) []:=by
 have hm':l.length≤9223372036854775807:=Nat.le_trans hm (by decide)
 refine sBody Tryz.func202 ?_;conv=>whnf
 refine zbv mixed (by kernel_rfl) (fun i:Nat=>i≤l.length∧∀ j (hj:j < l.length),j < i→max (zbc l b j) 1≤(l[j]'hj).term∧(l[j]'hj).term≤t∧zds (l[j]'hj)=true) (fun i=>[(7,iv i),(1,iv (zbc l b i))]) [] (fun i=>l.length - i) 0 ⟨Nat.zero_le _,fun j _ h=>absurd h (Nat.not_lt_zero _)⟩ ?_ ?_
 ·conv=>whnf
  exact wkD
 rintro i ⟨hi,hp⟩
 conv=>whnf
 (refine tSp (fun h=>?_) (fun h=>?_)<;>conv=>whnf)
 ·simp only [List.length_map] at h
  have hlt:i < l.length:=by omega
  have emax:(if (1:Int) > zbc l b i then 1 else zbc l b i)=max (zbc l b i) 1:=by split<;>omega
  (first | ((with_reducible refine And.intro (by omega) (Exists.intro _ (And.intro (zbn hlt) ?_)));conv=>whnf))
  ((try (refine Exists.intro none ?_;conv=>whnf));(with_reducible refine zaa (zcr _ _ _) ?_);conv=>whnf)
  (refine tSp (fun h=>?_) (fun h=>?_)<;>conv=>whnf)
  ·refine zab rfl (congrArg (fun b:Bool=>bv b) ?_)
   symm
   rw [← Bool.not_eq_true,zej]
   intro hh
   have:=hh i hlt
   have h2:=of_decide_eq_false h
   rw [emax] at h2
   exact h2 ⟨this.1,this.2.1⟩
  ·have h1:=of_decide_eq_true h
   rw [emax] at h1
   (first | ((with_reducible refine And.intro (by omega) (Exists.intro _ (And.intro (zbn hlt) ?_)));conv=>whnf))
   ((try (refine Exists.intro none ?_;conv=>whnf));(with_reducible refine zaa (zx1 (l[i]'hlt)) ?_);conv=>whnf)
   (refine tSp (fun h=>?_) (fun h=>?_)<;>conv=>whnf)
   ·refine zab rfl (congrArg (fun b:Bool=>bv b) ?_)
    symm
    rw [← Bool.not_eq_true,zej]
    intro hh
    have:=hh i hlt
    rw [h] at this;cases this.2.2
   ·(first | ((with_reducible refine And.intro (by omega) (Exists.intro _ (And.intro (zbn hlt) ?_)));conv=>whnf))
    refine ⟨i+1,⟨⟨by omega,?_⟩,by omega⟩,?_⟩
    ·intro j hj hji
     by_cases e:j=i
     ·subst e;exact ⟨h1.1,h1.2,h⟩
     ·exact hp j hj (by omega)
    ·rw [zbr hlt]
     conv=>whnf
     exact wkD
 ·simp only [List.length_map] at h
  have:i=l.length:=by omega
  subst this
  refine zab rfl (congrArg (fun b:Bool=>bv b) ?_)
  symm
  rw [zej]
  intro j hj
  exact hp j hj hj
theorem zf8 (l:List Ent) (hm:l.length≤maxLen) (b t:Int):Ctr Tryz.prog 126 [.sl 16 (l.map Ent.enc),iv b,iv t] (bv (rowB l b t)) []:=by
 have hm':l.length≤9223372036854775807:=Nat.le_trans hm (by decide)
 have emax:∀ x:Int,(if (1:Int) > x then 1 else x)=max x 1:=by intro x;split<;>omega
 refine sBody Tryz.func126 ?_;conv=>whnf
 refine zbv mixed (by kernel_rfl) (fun i:Nat=>i≤l.length∧∀ j (hj:j < l.length),j < i→max (zbc l b j) 1≤(l[j]'hj).term∧(l[j]'hj).term≤t∧zds (l[j]'hj)=true) (fun i=>[(14,iv i),(7,iv (max (zbc l b i) 1))]) [] (fun i=>l.length - i) 0 ⟨Nat.zero_le _,fun j _ h=>absurd h (Nat.not_lt_zero _)⟩ ?_ ?_
 ·conv=>whnf
  (refine wkx ?_;refine ⟨?_,?_,?_⟩<;>(conv=>whnf)<;>repeat' first | exact wkc | (with_reducible refine And.intro ?_ ?_)<;>first | exact wks | refine wko ?_ | refine wki ?_ | refine wkb ?_ | (refine zan ?_;conv=>whnf) | (refine zah ?_;conv=>whnf) | (refine zag ?_;conv=>whnf) | conv=>whnf)
  all_goals first | rfl | (rw [zei];exact emax b)
 rintro i ⟨hi,hp⟩
 conv=>whnf
 (refine tSp (fun h=>?_) (fun h=>?_)<;>conv=>whnf)
 ·simp only [List.length_map] at h
  have hlt:i < l.length:=by omega
  have bad:¬ (max (zbc l b i) 1≤(l[i]'hlt).term∧(l[i]'hlt).term≤t∧zds (l[i]'hlt)=true)→rowB l b t=false:=by
   intro hn
   rw [← Bool.not_eq_true,zej]
   exact fun hh=>hn (hh i hlt)
  (first | ((with_reducible refine And.intro (by omega) (Exists.intro _ (And.intro (zbn hlt) ?_)));conv=>whnf))
  (refine tSp (fun h=>?_) (fun h=>?_)<;>conv=>whnf)
  ·exact zab rfl (by rw [bad (by omega)])
  ·have h1:=h
   (refine tSp (fun h=>?_) (fun h=>?_)<;>conv=>whnf)
   ·exact zab rfl (by rw [bad (by omega)])
   ·have h2:=h
    ((try (refine Exists.intro none ?_;conv=>whnf));(with_reducible refine zaa (znl (l[i]'hlt)) ?_);conv=>whnf)
    (refine tSp (fun h=>?_) (fun h=>?_)<;>conv=>whnf)
    ·exact zab rfl (by rw [bad (by rw [h];simp)])
    ·refine ⟨i+1,⟨⟨by omega,?_⟩,by omega⟩,?_⟩
     ·intro j hj hji
      by_cases e:j=i
      ·subst e;exact ⟨by omega,by omega,h⟩
      ·exact hp j hj (by omega)
     ·rw [zbr hlt,show max (l[i]'hlt).term 1=(l[i]'hlt).term from by omega]
      conv=>whnf
      exact wkD
 ·simp only [List.length_map] at h
  have:i=l.length:=by omega
  subst this
  refine zab rfl (congrArg (fun b:Bool=>bv b) ?_)
  symm
  rw [zej]
  intro j hj
  exact hp j hj hj
structure HardA (h:Hrd):Prop where
 t:0≤h.term∧h.term≤1099511627776
 v:-1≤h.vote∧h.vote≤6
 b:0≤h.base∧h.base≤1099511627776
 bt:0≤h.baseTerm∧h.baseTerm≤h.term
 z:h.baseTerm=0 ↔ h.base=0
noncomputable def hardB (h:Hrd):Bool:=dec (HardA h) && (confB h.baseConf && (decide (h.snap.length≤16384∧(0 < h.base∨h.snap.length=0)) && rowB h.log h.baseTerm h.term))
theorem zt9 (h:Hrd):HardA h ↔ ((0≤h.term∧h.term≤1099511627776)∧(-1≤h.vote∧h.vote≤6)∧(0≤h.base∧h.base≤1099511627776)∧(0≤h.baseTerm∧h.baseTerm≤h.term)∧(h.baseTerm=0 ↔ h.base=0)) :=
 ⟨fun ⟨a,b,c,d,e⟩=>⟨a,b,c,d,e⟩,fun ⟨a,b,c,d,e⟩=>⟨a,b,c,d,e⟩⟩
set_option maxHeartbeats 2000000 in
theorem zl2 (a:Hrd) (hm:a.log.length≤maxLen):Ctr Tryz.prog 171 [.ag a.enc] (bv (hardB a)) []:=by
 have no:¬ HardA a→hardB a=false:=fun hn=>by unfold hardB;rw [zis hn];rfl
 have hz:((a.baseTerm == 0) != (a.base == 0))=true ↔ ¬ (a.baseTerm=0 ↔ a.base=0):=by
  rw [bne_iff_ne,ne_eq,Bool.eq_iff_iff,beq_iff_eq,beq_iff_eq]
 refine sBody Tryz.func171 ?_;conv=>whnf
 ((try (refine Exists.intro none ?_;conv=>whnf));(with_reducible refine zaa (zcr _ _ _) ?_);conv=>whnf)
 (refine tSp (fun h=>?_) (fun h=>?_)<;>conv=>whnf)
 ·exact zab rfl (by rw [no (fun k=>of_decide_eq_false h k.t)])
 have g1:=of_decide_eq_true h
 ((try (refine Exists.intro none ?_;conv=>whnf));(with_reducible refine zaa (zcr _ _ _) ?_);conv=>whnf)
 (refine tSp (fun h=>?_) (fun h=>?_)<;>conv=>whnf)
 ·exact zab rfl (by rw [no (fun k=>of_decide_eq_false h k.v)])
 have g2:=of_decide_eq_true h
 ((try (refine Exists.intro none ?_;conv=>whnf));(with_reducible refine zaa (zcr _ _ _) ?_);conv=>whnf)
 (refine tSp (fun h=>?_) (fun h=>?_)<;>conv=>whnf)
 ·exact zab rfl (by rw [no (fun k=>of_decide_eq_false h k.b)])
 have g3:=of_decide_eq_true h
 ((try (refine Exists.intro none ?_;conv=>whnf));(with_reducible refine zaa (zcr _ _ _) ?_);conv=>whnf)
 (refine tSp (fun h=>?_) (fun h=>?_)<;>conv=>whnf)
 ·exact zab rfl (by rw [no (fun k=>of_decide_eq_false h k.bt)])
 have g4:=of_decide_eq_true h
 ((with_reducible refine And.intro (show Tryz.prog.underlying _=some .bool by kernel_rfl) ?_);conv=>whnf)
 (refine tSp (fun h=>?_) (fun h=>?_)<;>conv=>whnf)
 ·exact zab rfl (by rw [no (fun k=>hz.1 h k.z)])
 have g5:a.baseTerm=0 ↔ a.base=0:=by
  apply Classical.byContradiction
  intro hn
  rw [hz.2 hn] at h;cases h
 have yes:dec (HardA a)=true:=zec ⟨g1,g2,g3,g4,g5⟩
 unfold hardB
 rw [yes,Bool.true_and]
 repeat' (first | (refine tSp (fun h=>?_) (fun h=>?_)<;>conv=>whnf) | ((try ((refine Exists.intro none ?_);(conv=>whnf)));first | ((with_reducible refine zaa (zhx a.baseConf) ?_);conv=>whnf) | ((with_reducible refine zaa (c_row a.log hm _ _) ?_);conv=>whnf)))
 all_goals (refine zab rfl (congrArg (fun b:Bool=>bv b) ?_))
 all_goals (try simp only [List.length_map] at *)
 all_goals (try simp_all)
 all_goals (try omega)
theorem zg6 (a:Hrd) (hm:a.log.length≤maxLen):Ctr Tryz.prog 47 [.ag a.enc] (iv (if hardB a then 0 else 6)) []:=by
 have no:¬ HardA a→hardB a=false:=fun hn=>by unfold hardB;rw [zis hn];rfl
 have hz:((a.baseTerm == 0) != (a.base == 0))=true ↔ ¬ (a.baseTerm=0 ↔ a.base=0):=by
  rw [bne_iff_ne,ne_eq,Bool.eq_iff_iff,beq_iff_eq,beq_iff_eq]
 refine sBody Tryz.func47 ?_;conv=>whnf
 repeat' (first | ((first | refine tYesA ?_ | refine tNoA ?_ | refine tSp (fun h=>?_) (fun h=>?_))<;>conv=>whnf) | ((with_reducible refine And.intro (show Tryz.prog.underlying _=some .bool by kernel_rfl) ?_);conv=>whnf))
 all_goals first
  | (refine zab rfl (congrArg (fun n : Int => iv n) ?_)
     rw [no (by intro k;obtain ⟨k1,k2,k3,k4,k5⟩:=(zt9 a).1 k;first | omega | (exact hz.1 (by assumption) k5))]
     rfl)
  | skip
 have yes:dec (HardA a)=true:=zec ⟨by omega,by omega,by omega,by omega,by
  apply Classical.byContradiction
  intro hn
  rw [hz.2 hn] at h;cases h⟩
 unfold hardB
 rw [yes,Bool.true_and]
 ((try (refine Exists.intro none ?_;conv=>whnf));(with_reducible refine zaa (zo6 a.baseConf) ?_);conv=>whnf)
 cases hc:confB a.baseConf
 ·simp only [Bool.false_eq_true,if_false]
  conv=>whnf
  exact zab rfl rfl
 ·simp only [if_true]
  conv=>whnf
  repeat' (first | ((first | refine tYesA ?_ | refine tNoA ?_ | refine tSp (fun h=>?_) (fun h=>?_))<;>conv=>whnf) | ((try (refine Exists.intro none ?_;conv=>whnf));(with_reducible refine zaa (zf8 a.log hm _ _) ?_);conv=>whnf))
  all_goals (refine zab rfl (congrArg (fun n:Int=>iv n) ?_))
  all_goals (try simp only [List.length_map] at *)
  all_goals (try simp_all)
  all_goals (try omega)
  all_goals (try (intro _ e;rw [e] at h;simp at h))
end Go.Proofs
namespace Go.Pv
theorem zom {P : Program} (hm : P.follows .mixedOrders = true) {f : Nat} {fn : Func} {code : Code} {args : List PV} {r : PV} {os : List (Nat × List (List PV))} (hf : P.funcs[f]? = some fn) (hb : fn.body = some code) (hname : (fn.name == "runtime.NumGoroutine") = false) (hok : zb8 code = true)
    (h:Tri P code (exitQ P fn.results.toList r os) ⟨args++List.replicate (fn.ntmps - args.length) .bad,[],[]⟩):Ctr P f args r os:=by
 refine ⟨?_⟩
 intro w st vs hst hvs
 left
 refine ⟨by simp [callFunc,hf,hb];simpa using hname,?_⟩
 refine calls_of_wp hf hb ?_
 have hlen:=hvs.length
 have hrel:Rel w (fun _=>False) (Base.of st) (zcb st) (CSt.st ⟨args++List.replicate (fn.ntmps - args.length) .bad,[],[]⟩) { tmps:=vs.toArray++Array.replicate (fn.ntmps - vs.toArray.size) undef,defers:=[] } w:=by
  refine ⟨{ os:=rfl,tape:=rfl,out:=rfl,size:=Nat.le_refl _,kept:=fun _ _ _=>rfl,stlt:=hst,stok:=fun b hb=>.inl hb,box:=?_,boxKey:=?_,obj:=?_,objKey:=?_,boxNe:=?_,objNe:=?_,boxObj:=?_,pinB:=?_,pinO:=?_ },rfl,?_,?_⟩
  ·intro k ls hk;cases hk
  ·intro k b hk;cases hk
  ·intro k a b c hk;cases hk
  ·intro k L hk;cases hk
  ·intro k k' b hk;cases hk
  ·intro k k' o o' L L' hk;cases hk
  ·intro k k' b o L hk;cases hk
  ·intro k b hk;cases hk
  ·intro k b hk;cases hk
  ·simp [CSt.st,hlen]
  ·intro t
   simp only [CSt.st]
   rw [List.getD_eq_getElem?_getD,Array.getD_eq_getD_getElem?,List.getElem?_append,Array.getElem?_append]
   by_cases ht:t < args.length
   ·rw [if_pos ht,if_pos (by simp;omega)]
    obtain ⟨c,hc,hv⟩:=hvs.get t (p:=args[t]) (by simp [ht])
    simp [ht,hc]
    exact hv
   ·rw [if_neg ht]
    rw [List.getElem?_replicate]
    split<;>simp [RV]
 refine wp_mono (h.run w (fun _=>False) (Base.of st) (zcb st) _ w hrel) ?_
 rintro e a' w' ⟨c',M',hr',hq⟩
 cases e with
 | ret =>
  obtain ⟨v,h1,M'',h2,h3⟩:=zfp (fn:=fn) hr' hq
  exact ⟨hr'.dfr,v,h1,v,M'',rfl,h2,h3⟩
 | normal =>
  obtain ⟨v,h1,M'',h2,h3⟩:=zfp (fn:=fn) hr' hq
  exact ⟨hr'.dfr,v,h1,v,M'',rfl,h2,h3⟩
 | exit i=>exact hq.elim
 | goto i=>exact hq.elim
 | panic ch=>exact hq.elim
 | outgrown=>exact hq.elim
theorem zbe {P : Program} (hm : P.follows .mixedOrders = true) {f : Nat} {fn : Func} {code : Code} {args : List PV} {r : PV} {bx bx' : List (Nat × List PV)} {ob ob' : List (Nat × Option (Bool × Nat × List (List PV)))} (hf : P.funcs[f]? = some fn) (hb : fn.body = some code) (hname : (fn.name == "runtime.NumGoroutine") = false) (hok : zb8 code = true)
    (h:Tri P code (zwy P fn.results.toList r bx' ob') ⟨args++List.replicate (fn.ntmps - args.length) .bad,bx,ob⟩):CtrE P f args bx ob r bx' ob':=by
 refine ⟨?_⟩
 intro w X M vs h0 hvs
 left
 refine ⟨by simp [callFunc,hf,hb];simpa using hname,?_⟩
 refine calls_of_wp hf hb ?_
 have hlen:=hvs.length
 have hrel:Rel w X (zhc M) M (CSt.st ⟨args++List.replicate (fn.ntmps - args.length) .bad,bx,ob⟩) { tmps:=vs.toArray++Array.replicate (fn.ntmps - vs.toArray.size) undef,defers:=[] } w:=by
  refine ⟨h0,rfl,?_,?_⟩
  ·simp [CSt.st,hlen]
  ·intro t
   simp only [CSt.st]
   rw [List.getD_eq_getElem?_getD,Array.getD_eq_getD_getElem?,List.getElem?_append,Array.getElem?_append]
   by_cases ht:t < args.length
   ·rw [if_pos ht,if_pos (by simp;omega)]
    obtain ⟨c,hc,hv⟩:=hvs.get t (p:=args[t]) (by simp [ht])
    simp [ht,hc]
    exact hv
   ·rw [if_neg ht]
    rw [List.getElem?_replicate]
    split<;>simp [RV]
 refine wp_mono (h.run w X (zhc M) M _ w hrel) ?_
 rintro e a' w' ⟨c',M',hr',hq⟩
 cases e with
 | ret =>
  obtain ⟨v,h1,M'',h2,h3⟩:=ze1 (fn:=fn) hr' hq
  exact ⟨hr'.dfr,v,h1,v,M'',rfl,h2,h3⟩
 | normal =>
  obtain ⟨v,h1,M'',h2,h3⟩:=ze1 (fn:=fn) hr' hq
  exact ⟨hr'.dfr,v,h1,v,M'',rfl,h2,h3⟩
 | exit i=>exact hq.elim
 | goto i=>exact hq.elim
 | panic ch=>exact hq.elim
 | outgrown=>exact hq.elim
theorem tri_seq {P : Program} (hm : P.follows .mixedOrders = true) {x y : Code} {Q : Exit → CSt → Prop} {c : CSt} (hok : zb8 x = true)
    (h:pwp P x c fun e c'=>match e with | .normal=>Tri P y Q c' | e=>Q e c'):Tri P (.seq x y) Q c:=by
 refine ⟨?_⟩
 intro w0 X S0 M a w hr
 refine wp_seq (wp_mono ((zb9 hm x c _ hok h).run w0 X S0 M a w hr) ?_)
 rintro e a' w' ⟨c',M',hr',hq⟩
 cases e with
 | normal=>exact Tri.run hq w0 X S0 M' a' w' hr'
 | exit i=>exact ⟨c',M',hr',hq⟩
 | goto i=>exact ⟨c',M',hr',hq⟩
 | ret=>exact ⟨c',M',hr',hq⟩
 | panic ch=>exact ⟨c',M',hr',hq⟩
 | outgrown=>exact ⟨c',M',hr',hq⟩
theorem Tri.wk' {P:Program}{code:Code}{Q:Exit→CSt→Prop}{c c':CSt} (hw:Wk c c') (h:Tri P code Q c'):Tri P code Q c:=by
 refine ⟨?_⟩
 intro w0 X S0 M a w hr
 obtain ⟨M',hr'⟩:=hw w0 X S0 M a w hr
 exact h.run w0 X S0 M' a w hr'
theorem tri_cut {P : Program} (hm : P.follows .mixedOrders = true) {x y : Code} {Q : Exit → CSt → Prop} {tm : List PV} {bx : List (Nat × List PV)} {ob : List (Nat × Option (Bool × Nat × List (List PV)))} (hok : zb8 x = true) {β : Type} (I : β → Prop) (V : β → List (Nat × PV)) (W : β → List (Nat × List PV)) (O : β → List (Nat × Option (Bool × Nat × List (List PV))))
    (h1:pwp P x ⟨tm,bx,ob⟩ fun e c'=>match e with | .normal=>∃ b rn,I b∧headK x tm (V b) fun tm'=>wkK rn [] c' tm' (W b) (O b) | e=>Q e c')
    (h2:∀ b,I b→headK x tm (V b) fun tm'=>Tri P y Q ⟨tm',W b,O b⟩):Tri P (.seq x y) Q ⟨tm,bx,ob⟩:=by
 refine ⟨?_⟩
 intro w0 X S0 M a w hr
 refine wp_seq (wp_mono ((zb9 hm x _ _ hok h1).run w0 X S0 M a w hr) ?_)
 rintro e a' w' ⟨c',M',hr',hq⟩
 cases e with
 | normal =>
  obtain ⟨b,rn,hI,hk⟩:=hq
  have h:=h2 b hI
  rw [zc3] at hk h
  exact (Tri.wk' (zc1 hk) h).run w0 X S0 M' a' w' hr'
 | exit i=>exact ⟨c',M',hr',hq⟩
 | goto i=>exact ⟨c',M',hr',hq⟩
 | ret=>exact ⟨c',M',hr',hq⟩
 | panic ch=>exact ⟨c',M',hr',hq⟩
 | outgrown=>exact ⟨c',M',hr',hq⟩
theorem tSeq {P : Program} {x y : Code} {Q : Exit → CSt → Prop} {c : CSt}
    (h:pwp P x c fun e c'=>match e with | .normal=>Tri P y Q c' | e=>Q e c') (hm:P.follows .mixedOrders=true:=by exact mixed) (hok:zb8 x=true:=by kernel_rfl):Tri P (.seq x y) Q c:=tri_seq hm hok h
theorem tCut {P : Program} {x y : Code} {Q : Exit → CSt → Prop} {tm : List PV} {bx : List (Nat × List PV)} {ob : List (Nat × Option (Bool × Nat × List (List PV)))} {β : Type} (I : β → Prop) (V : β → List (Nat × PV)) (W : β → List (Nat × List PV)) (O : β → List (Nat × Option (Bool × Nat × List (List PV))))
    (h1:pwp P x ⟨tm,bx,ob⟩ fun e c'=>match e with | .normal=>∃ b rn,I b∧headK x tm (V b) fun tm'=>wkK rn [] c' tm' (W b) (O b) | e=>Q e c')
    (h2:∀ b,I b→headK x tm (V b) fun tm'=>Tri P y Q ⟨tm',W b,O b⟩) (hm:P.follows .mixedOrders=true:=by exact mixed) (hok:zb8 x=true:=by kernel_rfl):Tri P (.seq x y) Q ⟨tm,bx,ob⟩:=tri_cut hm hok I V W O h1 h2
theorem zwh {P : Program} {body : Code} {Q : Exit → CSt → Prop} {c : CSt} {β : Type} (I : β → Prop) (S : β → CSt) (μ : β → Nat) (b0 : β) (h0 : I b0) (hw : Wk c (S b0))
    (N:β→CSt→Prop) (hN:∀ b c',N b c'→∃ b',I b'∧μ b' < μ b∧Wk c' (S b')) (round:∀ b,I b→Tri P body (loopQ Q (N b)) (S b)):Tri P (.loop body) Q c:=by
 refine ⟨?_⟩
 intro w0 X S0 M a w hr
 obtain ⟨M0,hr0⟩:=hw w0 X S0 M a w hr
 intro fb k cs
 have key:∀ n b,μ b=n→I b→∀ M a w,Rel w0 X S0 M (S b).st a w→∃ e a' w',(∃ c' M',Rel w0 X S0 M' c'.st a' w'∧Q e c')∧Arrives P (lone (fb.at a (.code body :: .inLoop body :: k)) cs w) fb k cs e a' w':=by
  intro n
  induction n using Nat.strongRecOn with
  | _ n ih =>
   intro b hb hI M a w hr
   obtain ⟨e,a₁,w₁,⟨c1,M1,hr1,hq⟩,harr⟩:=(round b hI).run w0 X S0 M a w hr fb (.inLoop body :: k) cs
   cases e with
   | normal =>
    obtain ⟨b',hI',hlt,hwk⟩:=hN b c1 hq
    obtain ⟨M2,hr2⟩:=hwk w0 X S0 M1 a₁ w₁ hr1
    obtain ⟨e₂,a₂,w₂,hq₂,harr₂⟩:=ih (μ b') (hb ▸ hlt) b' rfl hI' M2 a₁ w₁ hr2
    exact ⟨e₂,a₂,w₂,hq₂,.of_steps (Steps.trans harr (.one step_inLoop)) harr₂⟩
   | exit id=>exact ⟨_,a₁,w₁,⟨c1,M1,hr1,hq⟩,.pass (x:=.inLoop body) rfl (fun _ _=>.inl (by simp)) harr⟩
   | goto l=>exact ⟨_,a₁,w₁,⟨c1,M1,hr1,hq⟩,.pass (x:=.inLoop body) rfl (fun _ _=>.inl (by simp)) harr⟩
   | ret=>exact ⟨_,a₁,w₁,⟨c1,M1,hr1,hq⟩,.pass (x:=.inLoop body) rfl (fun _ _=>.inl (by simp)) harr⟩
   | panic ch=>exact ⟨_,a₁,w₁,⟨c1,M1,hr1,hq⟩,.pass (x:=.inLoop body) rfl (fun _ _=>.inl (by simp)) harr⟩
   | outgrown=>exact ⟨_,a₁,w₁,⟨c1,M1,hr1,hq⟩,.pass (x:=.inLoop body) rfl (fun _ _=>.inl (by simp)) harr⟩
 obtain ⟨e,a',w',hq,harr⟩:=key _ b0 rfl h0 M0 a w hr0
 exact ⟨e,a',w',hq,.of_steps (.one step_loop) harr⟩
theorem zxs {P : Program} {body : Code} {Q : Exit → CSt → Prop} {tm : List PV} {bx : List (Nat × List PV)} {ob : List (Nat × Option (Bool × Nat × List (List PV)))} {β : Type} (I : β → Prop) (V : β → List (Nat × PV)) (W : β → List (Nat × List PV)) (O : β → List (Nat × Option (Bool × Nat × List (List PV)))) (rn0 : List (Nat × Nat)) (μ : β → Nat) (b0 : β) (h0 : I b0)
    (hw:headK body tm (V b0) fun tm'=>wkK rn0 [] ⟨tm,bx,ob⟩ tm' (W b0) (O b0))
    (round:∀ b,I b→headK body tm (V b) fun tm'=>Tri P body (loopQ Q fun c'=>∃ b' rn,(I b'∧μ b' < μ b)∧headK body tm (V b') fun tm'=>wkK rn [] c' tm' (W b') (O b')) ⟨tm',W b,O b⟩):Tri P (.loop body) Q ⟨tm,bx,ob⟩:=by
 refine zwh I (fun b=>⟨headT body tm (V b),W b,O b⟩) μ b0 h0 ?_ (fun b c'=>∃ b' rn,(I b'∧μ b' < μ b)∧headK body tm (V b') fun tm'=>wkK rn [] c' tm' (W b') (O b')) ?_ ?_
 ·rw [zc3] at hw
  exact zc1 hw
 ·rintro b c' ⟨b',rn,⟨h1,h2⟩,h3⟩
  rw [zc3] at h3
  exact ⟨b',h1,h2,zc1 h3⟩
 ·intro b hb
  have h:=round b hb
  rw [zc3] at h
  exact h
theorem zqw {P : Program} {x y : Code} {Q : Exit → CSt → Prop} {c : CSt}
    (h:Tri P x (fun e c'=>match e with | .normal=>Tri P y Q c' | e=>Q e c') c):Tri P (.seq x y) Q c:=by
 refine ⟨?_⟩
 intro w0 X S0 M a w hr
 refine wp_seq (wp_mono (h.run w0 X S0 M a w hr) ?_)
 rintro e a' w' ⟨c',M',hr',hq⟩
 cases e with
 | normal=>exact Tri.run hq w0 X S0 M' a' w' hr'
 | exit i=>exact ⟨c',M',hr',hq⟩
 | goto i=>exact ⟨c',M',hr',hq⟩
 | ret=>exact ⟨c',M',hr',hq⟩
 | panic ch=>exact ⟨c',M',hr',hq⟩
 | outgrown=>exact ⟨c',M',hr',hq⟩
theorem zqy {P : Program} {x y : Code} {Q : Exit → CSt → Prop} {tm : List PV} {bx : List (Nat × List PV)} {ob : List (Nat × Option (Bool × Nat × List (List PV)))} {β : Type} (I : β → Prop) (V : β → List (Nat × PV)) (W : β → List (Nat × List PV)) (O : β → List (Nat × Option (Bool × Nat × List (List PV))))
    (h1:Tri P x (fun e c'=>match e with | .normal=>∃ b rn,I b∧headK x tm (V b) fun tm'=>wkK rn [] c' tm' (W b) (O b) | e=>Q e c') ⟨tm,bx,ob⟩)
    (h2:∀ b,I b→headK x tm (V b) fun tm'=>Tri P y Q ⟨tm',W b,O b⟩):Tri P (.seq x y) Q ⟨tm,bx,ob⟩:=by
 refine ⟨?_⟩
 intro w0 X S0 M a w hr
 refine wp_seq (wp_mono (h1.run w0 X S0 M a w hr) ?_)
 rintro e a' w' ⟨c',M',hr',hq⟩
 cases e with
 | normal =>
  obtain ⟨b,rn,hI,hk⟩:=hq
  have h:=h2 b hI
  rw [zc3] at hk h
  exact (Tri.wk' (zc1 hk) h).run w0 X S0 M' a' w' hr'
 | exit i=>exact ⟨c',M',hr',hq⟩
 | goto i=>exact ⟨c',M',hr',hq⟩
 | ret=>exact ⟨c',M',hr',hq⟩
 | panic ch=>exact ⟨c',M',hr',hq⟩
 | outgrown=>exact ⟨c',M',hr',hq⟩
theorem zmy {P:Program}{id:Nat}{body:Code}{Q:Exit→CSt→Prop}{c:CSt} (h:Tri P body (zi0 id Q) c):Tri P (.block id body) Q c:=by
 refine ⟨?_⟩
 intro w0 X S0 M a w hr
 refine wp_block (wp_mono (h.run w0 X S0 M a w hr) ?_)
 rintro e a' w' ⟨c',M',hr',hq⟩
 cases e with
 | exit i =>
  simp only [Exit.inBlock]
  by_cases hi:i=id
  ·subst hi
   rw [if_pos rfl]
   simp only [zi0,Nat.beq_refl,cond_true] at hq
   exact ⟨c',M',hr',hq⟩
  ·rw [if_neg hi]
   simp only [zi0,zbt hi,cond_false] at hq
   exact ⟨c',M',hr',hq⟩
 | normal=>exact ⟨c',M',hr',hq⟩
 | goto i=>exact ⟨c',M',hr',hq⟩
 | ret=>exact ⟨c',M',hr',hq⟩
 | panic ch=>exact ⟨c',M',hr',hq⟩
 | outgrown=>exact ⟨c',M',hr',hq⟩
theorem zx8 {P:Program}{x:Operand}{a b:Code}{Q:Exit→CSt→Prop}{c:CSt} (h:condK x (fun c Q=>Tri P a Q c) (fun c Q=>Tri P b Q c) c Q):Tri P (.cond x a b) Q c:=by
 refine ⟨?_⟩
 intro w0 X S0 M ac w hr
 unfold condK at h
 rw [zbl] at h
 split at h
 ·rename_i t ht
  rw [zhd] at h
  have hv:=hr.eval x
  have ht':aev c.st.tmps x=.sc (.bool t):=ht
  rw [ht'] at hv
  simp only [RV] at hv
  refine wp_cond (t:=t) hv ?_
  cases t
  ·exact h.run w0 X S0 M ac w hr
  ·exact h.run w0 X S0 M ac w hr
 ·rename_i φ ht
  have hv:=hr.eval x
  have ht':aev c.st.tmps x=.ub φ:=ht
  rw [ht'] at hv
  simp only [RV] at hv
  obtain ⟨t,hv,hφ⟩:=hv
  refine wp_cond (t:=t) hv ?_
  cases t
  ·exact h.2.run w0 X S0 M ac w hr
  ·exact (h.1 (hφ rfl)).run w0 X S0 M ac w hr
 ·exact h.elim
theorem zzd {tm : List PV} {bx : List (Nat × List PV)} {ob : List (Nat × Option (Bool × Nat × List (List PV)))} (k off key sz : Nat) (ls : List PV) (hb : lkA bx k = some ls) (hs : ls[off]? = some .nl) (hk : lkA ob key = none) :
    Wk ⟨tm,bx,ob⟩ ⟨tm,setA bx k (ls.set off (.ow key 0 0)),(key,some (false,sz,[])) :: ob⟩:=by
 intro w0 X S0 M a w hr
 obtain ⟨M',h1,hle,L,hL,hn⟩:=hr.toHRel.born key sz hk
 refine ⟨M',?_,hr.dfr,hr.len,fun t=>RV.mono hle _ _ (hr.tmp t)⟩
 have e:lkA ((key,some (false,sz,[])) :: ob)=upd (lkA ob) [(key,some (false,sz,[]))]:=by
  funext j
  rw [zbg]
  by_cases hk:j=key
  ·subst hk;simp [lkA]
  ·rw [if_neg hk]
   simp only [lkA]
   rw [zbt (fun e=>hk e.symm)];rfl
 show HRel w0 X S0 M' (lkA (setA bx k (ls.set off (.ow key 0 0)))) (lkA ((key,some (false,sz,[])) :: ob)) w
 rw [e]
 obtain ⟨b,T,cs,b1,b2,b3,b4⟩:=h1.box k ls hb
 refine ⟨h1.os,h1.tape,h1.out,h1.size,h1.kept,h1.stlt,h1.stok,?_,?_,h1.obj,h1.objKey,h1.boxNe,h1.objNe,h1.boxObj,h1.pinB,h1.pinO⟩
 ·intro j ms hj
  rw [zed] at hj
  by_cases ej:j=k
  ·subst ej
   rw [if_pos rfl] at hj
   cases hj
   refine ⟨b,T,cs,b1,b2,b3,?_⟩
   obtain ⟨c,hc,hv⟩:=b4.get off hs
   simp only [RV] at hv
   have hnew:RV M' w (.ow key 0 0) c:=by
    simp only [RV]
    exact ⟨L,hL,.inl ⟨hn,rfl,hv⟩⟩
   have key2:∀ (off:Nat) (ls:List PV) (cs:List Value),RVL M' w ls cs→cs[off]?=some c→RVL M' w (ls.set off (.ow key 0 0)) cs:=by
    intro off
    induction off with
    | zero =>
     intro ls cs h hc
     cases ls with
     | nil=>simpa using h
     | cons p ls =>
      simp only [RVL] at h
      obtain ⟨c',r,rfl,_,h2⟩:=h
      simp at hc
      subst hc
      simp only [List.set_cons_zero,RVL]
      exact ⟨_,r,rfl,hnew,h2⟩
    | succ off ih =>
     intro ls cs h hc
     cases ls with
     | nil=>simpa using h
     | cons p ls =>
      simp only [RVL] at h
      obtain ⟨c',r,rfl,h1,h2⟩:=h
      simp only [List.getElem?_cons_succ] at hc
      simp only [List.set_cons_succ,RVL]
      exact ⟨c',r,rfl,h1,ih ls r h2 hc⟩
   exact key2 off ls cs.toList b4 hc
  ·rw [if_neg ej] at hj
   exact h1.box j ms hj
 ·intro j b' hj
  rw [zed]
  by_cases ej:j=k
  ·exact ⟨_,if_pos ej⟩
  ·rw [if_neg ej];exact h1.boxKey j b' hj
def mv1 (K k:Nat) (p:PV):PV :=
 match p with
 | .ow j lo len=>match Nat.beq j K with
  | true=>.ow k lo len
  | false=>.ow j lo len
 | p=>p
theorem mv1_ow (K k j lo len:Nat):(j=K∧Pv.mv1 K k (.ow j lo len)=.ow k lo len)∨(j ≠ K∧Pv.mv1 K k (.ow j lo len)=.ow j lo len):=by
 cases hb:Nat.beq j K with
 | true=>exact .inl ⟨Nat.eq_of_beq_eq_true hb,by unfold Pv.mv1;simp only [hb]⟩
 | false =>
  refine .inr ⟨fun e=>?_,?_⟩
  ·subst e
   rw [show Nat.beq j j=true from Nat.beq_refl j] at hb
   cases hb
  ·unfold Pv.mv1
   simp only [hb]
theorem RV.mv1 {M M':Mem}{w:World}{K k:Nat} (hle:M.Le M' w w) (h:∀ L,M.ob K=some L→M'.ob k=some L) (p:PV) (v:Value) (hv:RV M w p v):RV M' w (Pv.mv1 K k p) v:=by
 cases p with
 | ow j lo len =>
  rcases mv1_ow K k j lo len with ⟨rfl,e⟩ | ⟨_,e⟩
  ·rw [e]
   simp only [RV] at hv ⊢
   obtain ⟨L,hL,h2⟩:=hv
   exact ⟨L,h L hL,h2⟩
  ·rw [e];exact RV.mono hle _ _ hv
 | _=>exact RV.mono hle _ _ hv
theorem RVL.mv1 {M M':Mem}{w:World}{K k:Nat} (hle:M.Le M' w w) (h:∀ L,M.ob K=some L→M'.ob k=some L):∀ (ps:List PV) (cs:List Value),RVL M w ps cs→RVL M' w (ps.map (Pv.mv1 K k)) cs
 | [],cs,hv=>by simpa [RVL] using hv
 | p :: ps,cs,hv=>by
  simp only [RVL] at hv
  obtain ⟨c,r,rfl,h1,h2⟩:=hv
  simp only [List.map_cons,RVL]
  exact ⟨c,r,rfl,RV.mv1 hle h p c h1,RVL.mv1 hle h ps r h2⟩
def mvB (K k:Nat) (bx:List (Nat×List PV)):List (Nat×List PV):=bx.map fun q=>(q.1,q.2.map (Pv.mv1 K k))
theorem zot (K k:Nat):∀ (bx:List (Nat×List PV)) (j:Nat),lkA (mvB K k bx) j=(lkA bx j).map fun ls=>ls.map (Pv.mv1 K k)
 | [],j=>rfl
 | (i,ls) :: bx,j=>by
  have ih:=zot K k bx j
  unfold mvB at *
  simp only [List.map_cons,lkA]
  by_cases e:i=j
  ·subst e;simp
  ·rw [zbt e];exact ih
theorem wk_mv {tm : List PV} {bx : List (Nat × List PV)} {ob : List (Nat × Option (Bool × Nat × List (List PV)))} (K k : Nat) {q : Bool × Nat × List (List PV)} (hK : lkA ob K = some (some q)) (hk : lkA ob k = none) :
    Wk ⟨tm,bx,ob⟩ ⟨tm.map (Pv.mv1 K k),mvB K k bx,(k,some q) :: (K,none) :: ob⟩:=by
 intro w0 X S0 M a w hr
 have h:=hr.toHRel
 have hMk:M.ob k=none:=h.ob_none hk
 have hKk:K ≠ k:=fun e=>by
  have hK':lkA ob K=some (some q):=hK
  rw [e,hk] at hK';cases hK'
 let M':Mem:=⟨M.st,M.bx,fun j=>if j=k then M.ob K else M.ob j⟩
 have hob:∀ j,j ≠ k→M'.ob j=M.ob j:=fun j hj=>if_neg hj
 have hobk:M'.ob k=M.ob K:=if_pos rfl
 have hle:M.Le M' w w:=⟨fun _ h=>h,fun _ _ h=>h,fun j L hj=>by
  have:j ≠ k:=fun e=>by rw [e,hMk] at hj;cases hj
  rw [hob j this];exact hj,fun _ _=>rfl⟩
 have hmv:∀ L,M.ob K=some L→M'.ob k=some L:=fun L hL=>by rw [hobk];exact hL
 have hO:∀ j o,lkA ((k,some q) :: (K,none) :: ob) j=some o→(j=k∧o=some q)∨(j=K∧o=none)∨(j ≠ k∧j ≠ K∧lkA ob j=some o):=by
  intro j o hj
  by_cases e1:j=k
  ·subst e1;simp [lkA] at hj;exact .inl ⟨rfl,hj.symm⟩
  ·by_cases e2:j=K
   ·subst e2
    simp only [lkA] at hj
    rw [zbt (fun e=>e1 e.symm)] at hj
    simp at hj
    exact .inr (.inl ⟨rfl,hj.symm⟩)
   ·simp only [lkA] at hj
    rw [zbt (fun e=>e1 e.symm),zbt (fun e=>e2 e.symm)] at hj
    exact .inr (.inr ⟨e1,e2,hj⟩)
 -- a key that is live,with what it was
 have hlive:∀ j o L,lkA ((k,some q) :: (K,none) :: ob) j=some (some o)→M'.ob j=some L→∃ j0,lkA ob j0=some (some o)∧M.ob j0=some L∧((j=k∧j0=K)∨(j ≠ k∧j ≠ K∧j0=j)):=by
  intro j o L hj hL
  rcases hO j _ hj with ⟨rfl,e⟩ | ⟨_,e⟩ | ⟨e1,e2,hj⟩
  ·cases e
   rw [hobk] at hL
   exact ⟨K,hK,hL,.inl ⟨rfl,rfl⟩⟩
  ·cases e
  ·rw [hob j e1] at hL
   exact ⟨j,hj,hL,.inr ⟨e1,e2,rfl⟩⟩
 refine ⟨M',⟨h.os,h.tape,h.out,h.size,h.kept,h.stlt,h.stok,?_,?_,?_,?_,h.boxNe,?_,?_,h.pinB,?_⟩,hr.dfr,?_,?_⟩
 ·intro j ls hj
  have hj:lkA (mvB K k bx) j=some ls:=hj
  rw [zot] at hj
  cases hl:lkA bx j with
  | none=>rw [hl] at hj;cases hj
  | some ls0 =>
   rw [hl] at hj
   cases hj
   obtain ⟨b,T,cs,g1,g2,g3,g4⟩:=h.box j ls0 hl
   exact ⟨b,T,cs,g1,g2,g3,RVL.mv1 hle hmv _ _ g4⟩
 ·intro j b hj
  obtain ⟨ls,hl⟩:=h.boxKey j b hj
  have hl:lkA bx j=some ls:=hl
  exact ⟨_,by show lkA (mvB K k bx) j=_;rw [zot,hl];rfl⟩
 ·intro j fz sz rows hj
  rcases hO j _ hj with ⟨rfl,e⟩ | ⟨_,e⟩ | ⟨e1,e2,hj⟩
  ·simp only [Option.some.injEq] at e
   subst e
   obtain ⟨L,g1,g2,g3⟩:=h.obj K fz sz rows hK
   refine ⟨L,hmv L g1,g2,?_⟩
   rcases g3 with g3 | ⟨g3,hf,ho,c,E,h5,h6,h7,h8,h9⟩
   ·exact .inl g3
   ·exact .inr ⟨g3,hf,ho,c,E,h5,h6,h7,h8,RVR.mono hle.cl _ _ _ h9⟩
  ·cases e
  ·obtain ⟨L,g1,g2,g3⟩:=h.obj j fz sz rows hj
   refine ⟨L,by rw [hob j e1];exact g1,g2,?_⟩
   rcases g3 with g3 | ⟨g3,hf,ho,c,E,h5,h6,h7,h8,h9⟩
   ·exact .inl g3
   ·exact .inr ⟨g3,hf,ho,c,E,h5,h6,h7,h8,RVR.mono hle.cl _ _ _ h9⟩
 ·intro j L hj
  show ∃ o,lkA ((k,some q) :: (K,none) :: ob) j=some o
  by_cases e1:j=k
  ·subst e1;exact ⟨_,by simp [lkA];rfl⟩
  ·by_cases e2:j=K
   ·subst e2
    exact ⟨none,by simp only [lkA];rw [zbt (fun e=>e1 e.symm)];simp⟩
   ·rw [hob j e1] at hj
    obtain ⟨o,ho⟩:=h.objKey j L hj
    exact ⟨o,by simp only [lkA];rw [zbt (fun e=>e1 e.symm),zbt (fun e=>e2 e.symm)];exact ho⟩
 ·intro j j' o o' L L' hj hj' hL hL' hn hn' heq
  obtain ⟨i,a1,a2,a3⟩:=hlive j _ L hj hL
  obtain ⟨i',b1,b2,b3⟩:=hlive j' _ L' hj' hL'
  have:=h.objNe i i' o o' L L' a1 b1 a2 b2 hn hn' heq
  rcases a3 with ⟨a3,a4⟩ | ⟨a3,a4,a5⟩<;>rcases b3 with ⟨b3,b4⟩ | ⟨b3,b4,b5⟩
  ·rw [a3,b3]
  ·exact absurd (by rw [← b5,← this,a4]) b4
  ·exact absurd (by rw [← a5,this,b4]) a4
  ·rw [← a5,this,b5]
 ·intro j j' b o L hj hj' hL hn
  obtain ⟨i',b1,b2,_⟩:=hlive j' _ L hj' hL
  exact h.boxObj j i' b o L hj b1 b2 hn
 ·intro j L hj
  have:=h.pinO j L hj
  have hjk:j ≠ k:=fun e=>by rw [e,hMk] at this;cases this
  rw [hob j hjk];exact this
 ·have:=hr.len
  show (tm.map (Pv.mv1 K k)).length=_
  rw [List.length_map];exact this
 ·intro t
  have ht:RV M w (tm.getD t .bad) (a.tmps.getD t undef):=hr.tmp t
  show RV M' w ((tm.map (Pv.mv1 K k)).getD t .bad) _
  have:=RV.mv1 hle hmv _ _ ht
  rw [List.getD_eq_getElem?_getD,List.getElem?_map]
  rw [List.getD_eq_getElem?_getD] at this
  cases hg:tm[t]? with
  | none=>simp only [Option.map_none,Option.getD_none];rw [hg] at this;simpa [Pv.mv1] using this
  | some p=>simp only [Option.map_some,Option.getD_some];rw [hg] at this;simpa using this
theorem Wk.trans' {a b c:CSt} (h1:Wk a b) (h2:Wk b c):Wk a c:=by
 intro w0 X S0 M ac w hr
 obtain ⟨M1,hr1⟩:=h1 w0 X S0 M ac w hr
 exact h2 w0 X S0 M1 ac w hr1
theorem zww {P : Program} {code : Code} {Q : Exit → CSt → Prop} {tm : List PV} {bx : List (Nat × List PV)} {ob : List (Nat × Option (Bool × Nat × List (List PV)))} (K k : Nat) {q : Bool × Nat × List (List PV)} (hK : lkA ob K = some (some q)) (hk : lkA ob k = none)
    (g:Tri P code Q ⟨tm.map (Pv.mv1 K k),mvB K k bx,(k,some q) :: (K,none) :: ob⟩):Tri P code Q ⟨tm,bx,ob⟩:=by
 refine ⟨?_⟩
 intro w0 X S0 M a w hr
 obtain ⟨M',hr'⟩:=wk_mv K k hK hk w0 X S0 M a w hr
 exact g.run w0 X S0 M' a w hr'
theorem zyk {c : CSt} {p r : PV} {bx' : List (Nat × List PV)} {ob' : List (Nat × Option (Bool × Nat × List (List PV)))} (K k : Nat) {q : Bool × Nat × List (List PV)} (hK : lkA c.ob K = some (some q)) (hk : lkA c.ob k = none)
    (h:ExitE ⟨c.tm,mvB K k c.bx,(k,some q) :: (K,none) :: c.ob⟩ (Pv.mv1 K k p) r bx' ob'):ExitE c p r bx' ob' :=
 ⟨Wk.trans' (wk_mv K k hK hk) h.ok⟩
theorem zd3 {c : CSt} {p r : PV} {bx' : List (Nat × List PV)} {ob' : List (Nat × Option (Bool × Nat × List (List PV)))} (j off key sz : Nat) (ls : List PV) (hb : lkA c.bx j = some ls) (hs : ls[off]? = some .nl) (hk : lkA c.ob key = none)
    (h:ExitE ⟨c.tm,setA c.bx j (ls.set off (.ow key 0 0)),(key,some (false,sz,[])) :: c.ob⟩ p r bx' ob'):ExitE c p r bx' ob' :=
 ⟨Wk.trans' (zzd j off key sz ls hb hs hk) h.ok⟩
theorem wk_frz {tm : List PV} {bx : List (Nat × List PV)} {ob : List (Nat × Option (Bool × Nat × List (List PV)))} (K : Nat) {sz : Nat} {rows : List (List PV)} (hK : lkA ob K = some (some (false, sz, rows))) :
    Wk ⟨tm,bx,ob⟩ ⟨tm,bx,(K,some (true,sz,rows)) :: ob⟩:=by
 intro w0 X S0 M a w hr
 obtain ⟨M1,h1,hle,_⟩:=hr.toHRel.freezeAll [(K,false,sz,rows)] (fun q hq=>by rw [List.mem_singleton.1 hq];exact hK)
 refine ⟨M1,?_,hr.dfr,hr.len,fun t=>RV.mono hle _ _ (hr.tmp t)⟩
 have e:lkA ((K,some (true,sz,rows)) :: ob)=upd (lkA ob) (zb1 [(K,false,sz,rows)]):=by
  funext j
  show _=upd (lkA ob) [(K,some (true,sz,rows))] j
  rw [zbg]
  by_cases hk:j=K
  ·subst hk;simp [lkA]
  ·rw [if_neg hk]
   simp only [lkA]
   rw [zbt (fun e=>hk e.symm)];rfl
 show HRel w0 X S0 M1 (lkA bx) (lkA ((K,some (true,sz,rows)) :: ob)) w
 rw [e]
 exact h1
theorem zvs {P : Program} {code : Code} {Q : Exit → CSt → Prop} {tm : List PV} {bx : List (Nat × List PV)} {ob : List (Nat × Option (Bool × Nat × List (List PV)))} (K : Nat) {sz : Nat} {rows : List (List PV)} (hK : lkA ob K = some (some (false, sz, rows)))
    (g:Tri P code Q ⟨tm,bx,(K,some (true,sz,rows)) :: ob⟩):Tri P code Q ⟨tm,bx,ob⟩:=by
 refine ⟨?_⟩
 intro w0 X S0 M a w hr
 obtain ⟨M',hr'⟩:=wk_frz K hK w0 X S0 M a w hr
 exact g.run w0 X S0 M' a w hr'
theorem ztm {c : CSt} {p r : PV} {bx' : List (Nat × List PV)} {ob' : List (Nat × Option (Bool × Nat × List (List PV)))} (K : Nat) {sz : Nat} {rows : List (List PV)} (hK : lkA c.ob K = some (some (false, sz, rows)))
    (h:ExitE ⟨c.tm,c.bx,(K,some (true,sz,rows)) :: c.ob⟩ p r bx' ob'):ExitE c p r bx' ob' :=
 ⟨Wk.trans' (wk_frz K hK) h.ok⟩
theorem zp7 {tm : List PV} {bx : List (Nat × List PV)} {ob : List (Nat × Option (Bool × Nat × List (List PV)))} (k off K n : Nat) {sz : Nat} {rows : List (List PV)} (ls : List PV) (hb : lkA bx k = some ls) (hs : ls[off]? = some (.ow K 0 n)) (hn : n = rows.length) (hK : lkA ob K = some (some (true, sz, rows))) :
    Wk ⟨tm,bx,ob⟩ ⟨tm,setA bx k (ls.set off (.sl sz rows)),ob⟩:=by
 intro w0 X S0 M a w hr
 have h1:=hr.toHRel
 refine ⟨M,?_,hr.dfr,hr.len,hr.tmp⟩
 show HRel w0 X S0 M (lkA (setA bx k (ls.set off (.sl sz rows)))) (lkA ob) w
 obtain ⟨b,T,cs,b1,b2,b3,b4⟩:=h1.box k ls hb
 refine ⟨h1.os,h1.tape,h1.out,h1.size,h1.kept,h1.stlt,h1.stok,?_,?_,h1.obj,h1.objKey,h1.boxNe,h1.objNe,h1.boxObj,h1.pinB,h1.pinO⟩
 ·intro j ms hj
  rw [zed] at hj
  by_cases ej:j=k
  ·subst ej
   rw [if_pos rfl] at hj
   cases hj
   refine ⟨b,T,cs,b1,b2,b3,?_⟩
   obtain ⟨c,hc,hv⟩:=b4.get off hs
   have hnew:RV M w (.sl sz rows) c:=by
    have hq:ResE [] [] [(K,true,sz,rows)] (.ow K 0 n) (.sl sz ((rows.drop 0).take n)):=by
     simp only [ResE]
     exact .inr ⟨true,sz,rows,List.Mem.head _,by omega,rfl⟩
    have:=ResE.sound h1 (fun q hq=>by rw [List.mem_singleton.1 hq];exact hK) _ _ c hq hv
    rw [List.drop_zero,hn,List.take_length] at this
    simp only [RV,zqr] at this ⊢
    exact this
   have key2:∀ (off:Nat) (ls:List PV) (cs:List Value),RVL M w ls cs→cs[off]?=some c→RVL M w (ls.set off (.sl sz rows)) cs:=by
    intro off
    induction off with
    | zero =>
     intro ls cs h hc
     cases ls with
     | nil=>simpa using h
     | cons p ls =>
      simp only [RVL] at h
      obtain ⟨c',r,rfl,_,h2⟩:=h
      simp at hc
      subst hc
      simp only [List.set_cons_zero,RVL]
      exact ⟨_,r,rfl,hnew,h2⟩
    | succ off ih =>
     intro ls cs h hc
     cases ls with
     | nil=>simpa using h
     | cons p ls =>
      simp only [RVL] at h
      obtain ⟨c',r,rfl,h1,h2⟩:=h
      simp only [List.getElem?_cons_succ] at hc
      simp only [List.set_cons_succ,RVL]
      exact ⟨c',r,rfl,h1,ih ls r h2 hc⟩
   exact key2 off ls cs.toList b4 hc
  ·rw [if_neg ej] at hj
   exact h1.box j ms hj
 ·intro j b' hj
  rw [zed]
  by_cases ej:j=k
  ·exact ⟨_,if_pos ej⟩
  ·rw [if_neg ej];exact h1.boxKey j b' hj
theorem zn6 {P : Program} {code : Code} {Q : Exit → CSt → Prop} {tm : List PV} {bx : List (Nat × List PV)} {ob : List (Nat × Option (Bool × Nat × List (List PV)))} (k off K n : Nat) {sz : Nat} {rows : List (List PV)} (ls : List PV) (hb : lkA bx k = some ls) (hs : ls[off]? = some (.ow K 0 n)) (hn : n = rows.length) (hK : lkA ob K = some (some (true, sz, rows)))
    (g:Tri P code Q ⟨tm,setA bx k (ls.set off (.sl sz rows)),ob⟩):Tri P code Q ⟨tm,bx,ob⟩:=by
 refine ⟨?_⟩
 intro w0 X S0 M a w hr
 obtain ⟨M',hr'⟩:=zp7 k off K n ls hb hs hn hK w0 X S0 M a w hr
 exact g.run w0 X S0 M' a w hr'
theorem zog {c : CSt} {p r : PV} {bx' : List (Nat × List PV)} {ob' : List (Nat × Option (Bool × Nat × List (List PV)))} (k off K n : Nat) {sz : Nat} {rows : List (List PV)} (ls : List PV) (hb : lkA c.bx k = some ls) (hs : ls[off]? = some (.ow K 0 n)) (hn : n = rows.length) (hK : lkA c.ob K = some (some (true, sz, rows)))
    (h:ExitE ⟨c.tm,setA c.bx k (ls.set off (.sl sz rows)),c.ob⟩ p r bx' ob'):ExitE c p r bx' ob' :=
 ⟨Wk.trans' (zp7 k off K n ls hb hs hn hK) h.ok⟩
theorem zad {c : CSt} {p r : PV} {bx' : List (Nat × List PV)} {ob' : List (Nat × Option (Bool × Nat × List (List PV)))} (k off K n : Nat) {sz : Nat} {rows : List (List PV)} (ls : List PV) (hb : lkA c.bx k = some ls) (hs : ls[off]? = some (.ow K 0 n)) (hn : n = rows.length) (hK : lkA c.ob K = some (some (false, sz, rows)))
    (h:ExitE ⟨c.tm,setA c.bx k (ls.set off (.sl sz rows)),(K,some (true,sz,rows)) :: c.ob⟩ p r bx' ob'):ExitE c p r bx' ob' :=
 ztm K hK (zog k off K n ls hb hs hn (by simp [lkA]) h)
theorem zax {P:Program}{f:Nat}{ps qs:List PV}{r:PV}{b bx bx':List (Nat×List PV)}{o ob ob':List (Nat×Option (Bool×Nat×List (List PV)))}{K:PV→List (Nat×List PV)→List (Nat×Option (Bool×Nat×List (List PV)))→Prop} (h:CtrE P f qs bx ob r bx' ob') (e1:ps=qs) (e2:b=bx) (e3:o=ob) (k:K r bx' ob'):∃ r bx' ob',CtrE P f ps b o r bx' ob'∧K r bx' ob':=by
 subst e1 e2 e3
 exact ⟨r,bx',ob',h,k⟩
end Go.Pv
