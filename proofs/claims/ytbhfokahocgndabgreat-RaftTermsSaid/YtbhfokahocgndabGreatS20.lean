import Derived.Test.YtbhfokahocgndabGreatC1
import Derived.Test.YtbhfokahocgndabGreatS12
/- Contracts of functions: the page takes a message: a snapshot. (genS14.py prints this) -/
set_option linter.unusedSimpArgs false
set_option linter.unusedVariables false
namespace Go.Proofs
open Go.Pv
set_option maxRecDepth 100000
set_option maxHeartbeats 8000000 in
theorem zvf (r:Rft) (hf:Fit r) (m:Mg) (hM:RightM r m) (hL:0≤m.logTerm∧m.logTerm≤far) (hR:0≤m.round∧m.round≤far) (heq:m.term=r.hard.term) (hsn:m.snap.length≤4294967296) (hgl:(insHH r (mkM m 7)).log.length≤maxLen) (he:insE r (mkM m 7)=0):Ctr Tryz.prog 40 [.ag r.enc,.ag (mkM m 7).enc] (.tu [.ag (insR r (mkM m 7)).enc,.sl 16 (insO r (mkM m 7)),iv 0]) []:=by
 have k1:Ctr Tryz.prog 57 [iv m.frm] (bv true) []:=by
  have:=zcc m.frm
  rwa [show zap m.frm 0 6=true from by unfold zap;rw [Bool.and_eq_true,decide_eq_true_eq,decide_eq_true_eq];have:=hM.frm;omega] at this
 have k3:=far_k hM.term
 have k4:=far_k hM.index
 have k5:=far_k hL
 have k6:=far_k hR
 have kt:=zao r hf.small
 have hne:=hM.ne
 have hto:=hM.to
 have hl0:=hf.log
 have hT0:=hf.term
 have k2:Ctr Tryz.prog 88 [iv 7,iv 1,iv 8] (bv true) []:=by
  have:=zay 7 1 8
  rwa [decide_eq_true (show 1≤(7:Int)∧(7:Int)≤8 from by decide)] at this
 have hfx:=hf
 have hxid:r.id=r.id:=rfl
 have hg1:¬ m.term > r.hard.term:=by omega
 have hx0:¬ m.term < r.hard.term:=by omega
 have hlx:=hfx.log
 have hTx:=hfx.term
 have hmx:r.hard.log.length≤maxLen:=zak (by omega)
 have hix:isI (mkM m 7).index:=by have:=hM.index;show isI m.index;unfold isI;omega
 unfold insE at he
 unfold insR insO
 refine sBody Tryz.func40 ?_;conv=>whnf
 ((try (refine Exists.intro none ?_;conv=>whnf));(with_reducible refine zaa (k1) ?_);conv=>whnf)
 (first | refine tYes ?_ | refine tNo ?_)
 conv=>whnf
 (first | refine tYes ?_ | refine tNo ?_)
 conv=>whnf
 ((try (refine Exists.intro none ?_;conv=>whnf));(with_reducible refine zaa (k2) ?_);conv=>whnf)
 ((try (refine Exists.intro none ?_;conv=>whnf));(with_reducible refine zaa (k3) ?_);conv=>whnf)
 ((try (refine Exists.intro none ?_;conv=>whnf));(with_reducible refine zaa (k4) ?_);conv=>whnf)
 ((try (refine Exists.intro none ?_;conv=>whnf));(with_reducible refine zaa (k5) ?_);conv=>whnf)
 ((try (refine Exists.intro none ?_;conv=>whnf));(with_reducible refine zaa (k6) ?_);conv=>whnf)
 ((try (refine Exists.intro none ?_;conv=>whnf));(with_reducible refine zaa (kt) ?_);conv=>whnf)
 (refine tNew0 ?_;conv=>whnf)
 (first | refine tYes ?_ | refine tNo ?_)
 conv=>whnf
 (first | refine tYes ?_ | refine tNo ?_)
 conv=>whnf
 by_cases hro:r.role=3
 ·rw [if_pos hro,if_pos hro]
  (first | refine tYes ?_ | refine tNo ?_)
  conv=>whnf
  exact zat [] (by intro q hq;cases hq) (zah ⟨zag agD,(by (conv=>whnf);exact .inr (.inl ⟨rfl,rfl⟩)),zaj _ rfl,rfl⟩)
 ·rw [if_neg hro] at he
  rw [if_neg hro,if_neg hro]
  (first | refine tYes ?_ | refine tNo ?_)
  conv=>whnf
  by_cases hlt:r.commit < (mkM m 7).index
  ·rw [if_pos hlt] at he
   rw [if_pos hlt,if_pos hlt,if_pos he,if_pos he]
   have kfo:=zk8 r hfx (mkM m 7) (by show ¬ (7:Int)=5;decide) hlt hsn hix hgl he
   ((refine Exists.intro (some ([(1000000,2)],[],[])) ?_);(conv=>whnf);refine zax (kfo) (by kernel_rfl) (by kernel_rfl) (by kernel_rfl) ?_;conv=>whnf)
   exact zat [] (by intro q hq;cases hq) (zah ⟨zag agD,(by (conv=>whnf);exact .inl (by kernel_rfl)),zaj _ rfl,rfl⟩)
  ·rw [if_neg hlt,if_neg hlt]
   have kfo:=zki r hfx (mkM m 7) (by show ¬ (7:Int)=5;decide) hlt
   ((refine Exists.intro (some ([(1000000,2)],[],[])) ?_);(conv=>whnf);refine zax (kfo) (by kernel_rfl) (by kernel_rfl) (by kernel_rfl) ?_;conv=>whnf)
   exact zat [] (by intro q hq;cases hq) (zah ⟨zag agD,(by (conv=>whnf);exact .inl (by kernel_rfl)),zaj _ rfl,rfl⟩)
set_option maxHeartbeats 8000000 in
theorem zso (r:Rft) (hf:Fit r) (m:Mg) (hM:RightM r m) (hL:0≤m.logTerm∧m.logTerm≤far) (hR:0≤m.round∧m.round≤far) (hgt:r.hard.term < m.term) (hsn:m.snap.length≤4294967296) (hgl:(insHH (fallR r m.term (-1)) (mkM m 7)).log.length≤maxLen) (he:insE (fallR r m.term (-1)) (mkM m 7)=0):Ctr Tryz.prog 40 [.ag r.enc,.ag (mkM m 7).enc] (.tu [.ag (insR (fallR r m.term (-1)) (mkM m 7)).enc,.sl 16 (insO (fallR r m.term (-1)) (mkM m 7)),iv 0]) []:=by
 have k1:Ctr Tryz.prog 57 [iv m.frm] (bv true) []:=by
  have:=zcc m.frm
  rwa [show zap m.frm 0 6=true from by unfold zap;rw [Bool.and_eq_true,decide_eq_true_eq,decide_eq_true_eq];have:=hM.frm;omega] at this
 have k3:=far_k hM.term
 have k4:=far_k hM.index
 have k5:=far_k hL
 have k6:=far_k hR
 have kt:=zao r hf.small
 have hne:=hM.ne
 have hto:=hM.to
 have hl0:=hf.log
 have hT0:=hf.term
 have k2:Ctr Tryz.prog 88 [iv 7,iv 1,iv 8] (bv true) []:=by
  have:=zay 7 1 8
  rwa [decide_eq_true (show 1≤(7:Int)∧(7:Int)≤8 from by decide)] at this
 have kf:=zck r (zak (by omega)) m.term (-1)
 have hfx:=zb3 hf (t:=m.term) (by have:=hM.term;omega) (-1)
 have hxt:=zbq hgt (-1)
 have hxid:(fallR r m.term (-1)).id=r.id:=rfl
 generalize fallR r m.term (-1)=x at *
 have hg1:m.term > r.hard.term:=hgt
 have hx0:¬ m.term < x.hard.term:=by omega
 have hlx:=hfx.log
 have hTx:=hfx.term
 have hmx:x.hard.log.length≤maxLen:=zak (by omega)
 have hix:isI (mkM m 7).index:=by have:=hM.index;show isI m.index;unfold isI;omega
 unfold insE at he
 unfold insR insO
 refine sBody Tryz.func40 ?_;conv=>whnf
 ((try (refine Exists.intro none ?_;conv=>whnf));(with_reducible refine zaa (k1) ?_);conv=>whnf)
 (first | refine tYes ?_ | refine tNo ?_)
 conv=>whnf
 (first | refine tYes ?_ | refine tNo ?_)
 conv=>whnf
 ((try (refine Exists.intro none ?_;conv=>whnf));(with_reducible refine zaa (k2) ?_);conv=>whnf)
 ((try (refine Exists.intro none ?_;conv=>whnf));(with_reducible refine zaa (k3) ?_);conv=>whnf)
 ((try (refine Exists.intro none ?_;conv=>whnf));(with_reducible refine zaa (k4) ?_);conv=>whnf)
 ((try (refine Exists.intro none ?_;conv=>whnf));(with_reducible refine zaa (k5) ?_);conv=>whnf)
 ((try (refine Exists.intro none ?_;conv=>whnf));(with_reducible refine zaa (k6) ?_);conv=>whnf)
 ((try (refine Exists.intro none ?_;conv=>whnf));(with_reducible refine zaa (kt) ?_);conv=>whnf)
 (refine tNew0 ?_;conv=>whnf)
 (first | refine tYes ?_ | refine tNo ?_)
 conv=>whnf
 ((refine Exists.intro (some ([(1000000,2)],[],[])) ?_);(conv=>whnf);refine zax (kf) (by kernel_rfl) (by kernel_rfl) (by kernel_rfl) ?_;conv=>whnf)
 (first | refine tYes ?_ | refine tNo ?_)
 conv=>whnf
 by_cases hro:x.role=3
 ·rw [if_pos hro,if_pos hro]
  (first | refine tYes ?_ | refine tNo ?_)
  conv=>whnf
  exact zat [] (by intro q hq;cases hq) (zah ⟨zag agD,(by (conv=>whnf);exact .inr (.inl ⟨rfl,rfl⟩)),zaj _ rfl,rfl⟩)
 ·rw [if_neg hro] at he
  rw [if_neg hro,if_neg hro]
  (first | refine tYes ?_ | refine tNo ?_)
  conv=>whnf
  by_cases hlt:x.commit < (mkM m 7).index
  ·rw [if_pos hlt] at he
   rw [if_pos hlt,if_pos hlt,if_pos he,if_pos he]
   have kfo:=zk8 x hfx (mkM m 7) (by show ¬ (7:Int)=5;decide) hlt hsn hix hgl he
   ((refine Exists.intro (some ([(1000000,2)],[],[])) ?_);(conv=>whnf);refine zax (kfo) (by kernel_rfl) (by kernel_rfl) (by kernel_rfl) ?_;conv=>whnf)
   exact zat [] (by intro q hq;cases hq) (zah ⟨zag agD,(by (conv=>whnf);exact .inl (by kernel_rfl)),zaj _ rfl,rfl⟩)
  ·rw [if_neg hlt,if_neg hlt]
   have kfo:=zki x hfx (mkM m 7) (by show ¬ (7:Int)=5;decide) hlt
   ((refine Exists.intro (some ([(1000000,2)],[],[])) ?_);(conv=>whnf);refine zax (kfo) (by kernel_rfl) (by kernel_rfl) (by kernel_rfl) ?_;conv=>whnf)
   exact zat [] (by intro q hq;cases hq) (zah ⟨zag agD,(by (conv=>whnf);exact .inl (by kernel_rfl)),zaj _ rfl,rfl⟩)
set_option maxHeartbeats 8000000 in
theorem zsk (r:Rft) (hf:Fit r) (m:Mg) (hM:RightM r m) (hL:0≤m.logTerm∧m.logTerm≤far) (hR:0≤m.round∧m.round≤far) (heq:m.term=r.hard.term) (hsn:m.snap.length≤4294967296) (hgl:(insHH r (mkM m 7)).log.length≤maxLen) (he:¬ insE r (mkM m 7)=0):Ctr Tryz.prog 40 [.ag r.enc,.ag (mkM m 7).enc] (.tu [.ag rzv,.nl,iv (insE r (mkM m 7))]) []:=by
 have k1:Ctr Tryz.prog 57 [iv m.frm] (bv true) []:=by
  have:=zcc m.frm
  rwa [show zap m.frm 0 6=true from by unfold zap;rw [Bool.and_eq_true,decide_eq_true_eq,decide_eq_true_eq];have:=hM.frm;omega] at this
 have k3:=far_k hM.term
 have k4:=far_k hM.index
 have k5:=far_k hL
 have k6:=far_k hR
 have kt:=zao r hf.small
 have hne:=hM.ne
 have hto:=hM.to
 have hl0:=hf.log
 have hT0:=hf.term
 have k2:Ctr Tryz.prog 88 [iv 7,iv 1,iv 8] (bv true) []:=by
  have:=zay 7 1 8
  rwa [decide_eq_true (show 1≤(7:Int)∧(7:Int)≤8 from by decide)] at this
 have hfx:=hf
 have hxid:r.id=r.id:=rfl
 have hg1:¬ m.term > r.hard.term:=by omega
 have hx0:¬ m.term < r.hard.term:=by omega
 have hlx:=hfx.log
 have hTx:=hfx.term
 have hmx:r.hard.log.length≤maxLen:=zak (by omega)
 have hix:isI (mkM m 7).index:=by have:=hM.index;show isI m.index;unfold isI;omega
 unfold insE at *
 refine sBody Tryz.func40 ?_;conv=>whnf
 ((try (refine Exists.intro none ?_;conv=>whnf));(with_reducible refine zaa (k1) ?_);conv=>whnf)
 (first | refine tYes ?_ | refine tNo ?_)
 conv=>whnf
 (first | refine tYes ?_ | refine tNo ?_)
 conv=>whnf
 ((try (refine Exists.intro none ?_;conv=>whnf));(with_reducible refine zaa (k2) ?_);conv=>whnf)
 ((try (refine Exists.intro none ?_;conv=>whnf));(with_reducible refine zaa (k3) ?_);conv=>whnf)
 ((try (refine Exists.intro none ?_;conv=>whnf));(with_reducible refine zaa (k4) ?_);conv=>whnf)
 ((try (refine Exists.intro none ?_;conv=>whnf));(with_reducible refine zaa (k5) ?_);conv=>whnf)
 ((try (refine Exists.intro none ?_;conv=>whnf));(with_reducible refine zaa (k6) ?_);conv=>whnf)
 ((try (refine Exists.intro none ?_;conv=>whnf));(with_reducible refine zaa (kt) ?_);conv=>whnf)
 (refine tNew0 ?_;conv=>whnf)
 (first | refine tYes ?_ | refine tNo ?_)
 conv=>whnf
 (first | refine tYes ?_ | refine tNo ?_)
 conv=>whnf
 by_cases hro:r.role=3
 ·rw [if_pos hro] at he
  exact absurd rfl he
 ·rw [if_neg hro] at he ⊢
  by_cases hlt:r.commit < (mkM m 7).index
  ·rw [if_pos hlt] at he ⊢
   have kfo:=zj4 r hfx (mkM m 7) (by show ¬ (7:Int)=5;decide) hlt hsn hix he
   (first | refine tYes ?_ | refine tNo ?_)
   conv=>whnf
   ((refine Exists.intro (some ([(1000000,2)],[],[])) ?_);(conv=>whnf);refine zax (kfo) (by kernel_rfl) (by kernel_rfl) (by kernel_rfl) ?_;conv=>whnf)
   (refine tSp (fun h=>?_) (fun h=>?_)<;>conv=>whnf)
   ·exact zat [] (by intro q hq;cases hq) (zah ⟨zag agD,zaj _ rfl,zaj _ rfl,rfl⟩)
   ·exact absurd (by first | exact h | (simpa using h)) he
  ·rw [if_neg hlt] at he
   exact absurd rfl he
set_option maxHeartbeats 8000000 in
theorem zo3 (r:Rft) (hf:Fit r) (m:Mg) (hM:RightM r m) (hL:0≤m.logTerm∧m.logTerm≤far) (hR:0≤m.round∧m.round≤far) (hgt:r.hard.term < m.term) (hsn:m.snap.length≤4294967296) (hgl:(insHH (fallR r m.term (-1)) (mkM m 7)).log.length≤maxLen) (he:¬ insE (fallR r m.term (-1)) (mkM m 7)=0):Ctr Tryz.prog 40 [.ag r.enc,.ag (mkM m 7).enc] (.tu [.ag rzv,.nl,iv (insE (fallR r m.term (-1)) (mkM m 7))]) []:=by
 have k1:Ctr Tryz.prog 57 [iv m.frm] (bv true) []:=by
  have:=zcc m.frm
  rwa [show zap m.frm 0 6=true from by unfold zap;rw [Bool.and_eq_true,decide_eq_true_eq,decide_eq_true_eq];have:=hM.frm;omega] at this
 have k3:=far_k hM.term
 have k4:=far_k hM.index
 have k5:=far_k hL
 have k6:=far_k hR
 have kt:=zao r hf.small
 have hne:=hM.ne
 have hto:=hM.to
 have hl0:=hf.log
 have hT0:=hf.term
 have k2:Ctr Tryz.prog 88 [iv 7,iv 1,iv 8] (bv true) []:=by
  have:=zay 7 1 8
  rwa [decide_eq_true (show 1≤(7:Int)∧(7:Int)≤8 from by decide)] at this
 have kf:=zck r (zak (by omega)) m.term (-1)
 have hfx:=zb3 hf (t:=m.term) (by have:=hM.term;omega) (-1)
 have hxt:=zbq hgt (-1)
 have hxid:(fallR r m.term (-1)).id=r.id:=rfl
 generalize fallR r m.term (-1)=x at *
 have hg1:m.term > r.hard.term:=hgt
 have hx0:¬ m.term < x.hard.term:=by omega
 have hlx:=hfx.log
 have hTx:=hfx.term
 have hmx:x.hard.log.length≤maxLen:=zak (by omega)
 have hix:isI (mkM m 7).index:=by have:=hM.index;show isI m.index;unfold isI;omega
 unfold insE at *
 refine sBody Tryz.func40 ?_;conv=>whnf
 ((try (refine Exists.intro none ?_;conv=>whnf));(with_reducible refine zaa (k1) ?_);conv=>whnf)
 (first | refine tYes ?_ | refine tNo ?_)
 conv=>whnf
 (first | refine tYes ?_ | refine tNo ?_)
 conv=>whnf
 ((try (refine Exists.intro none ?_;conv=>whnf));(with_reducible refine zaa (k2) ?_);conv=>whnf)
 ((try (refine Exists.intro none ?_;conv=>whnf));(with_reducible refine zaa (k3) ?_);conv=>whnf)
 ((try (refine Exists.intro none ?_;conv=>whnf));(with_reducible refine zaa (k4) ?_);conv=>whnf)
 ((try (refine Exists.intro none ?_;conv=>whnf));(with_reducible refine zaa (k5) ?_);conv=>whnf)
 ((try (refine Exists.intro none ?_;conv=>whnf));(with_reducible refine zaa (k6) ?_);conv=>whnf)
 ((try (refine Exists.intro none ?_;conv=>whnf));(with_reducible refine zaa (kt) ?_);conv=>whnf)
 (refine tNew0 ?_;conv=>whnf)
 (first | refine tYes ?_ | refine tNo ?_)
 conv=>whnf
 ((refine Exists.intro (some ([(1000000,2)],[],[])) ?_);(conv=>whnf);refine zax (kf) (by kernel_rfl) (by kernel_rfl) (by kernel_rfl) ?_;conv=>whnf)
 (first | refine tYes ?_ | refine tNo ?_)
 conv=>whnf
 by_cases hro:x.role=3
 ·rw [if_pos hro] at he
  exact absurd rfl he
 ·rw [if_neg hro] at he ⊢
  by_cases hlt:x.commit < (mkM m 7).index
  ·rw [if_pos hlt] at he ⊢
   have kfo:=zj4 x hfx (mkM m 7) (by show ¬ (7:Int)=5;decide) hlt hsn hix he
   (first | refine tYes ?_ | refine tNo ?_)
   conv=>whnf
   ((refine Exists.intro (some ([(1000000,2)],[],[])) ?_);(conv=>whnf);refine zax (kfo) (by kernel_rfl) (by kernel_rfl) (by kernel_rfl) ?_;conv=>whnf)
   (refine tSp (fun h=>?_) (fun h=>?_)<;>conv=>whnf)
   ·exact zat [] (by intro q hq;cases hq) (zah ⟨zag agD,zaj _ rfl,zaj _ rfl,rfl⟩)
   ·exact absurd (by first | exact h | (simpa using h)) he
  ·rw [if_neg hlt] at he
   exact absurd rfl he
set_option maxHeartbeats 8000000 in
theorem zvy (r:Rft) (hf:Fit r) (m:Mg) (hM:RightM r m) (hL:0≤m.logTerm∧m.logTerm≤far) (hR:0≤m.round∧m.round≤far) (heq:m.term=r.hard.term) (hmt:∀ i,i < 7→0≤r.mtch.at i∧r.mtch.at i≤lastI r.hard):Ctr Tryz.prog 40 [.ag r.enc,.ag (mkM m 6).enc] (.tu [.ag (zcj r (mkM m 6)).enc,.sl 16 ([]),iv 0]) []:=by
 have k1:Ctr Tryz.prog 57 [iv m.frm] (bv true) []:=by
  have:=zcc m.frm
  rwa [show zap m.frm 0 6=true from by unfold zap;rw [Bool.and_eq_true,decide_eq_true_eq,decide_eq_true_eq];have:=hM.frm;omega] at this
 have k3:=far_k hM.term
 have k4:=far_k hM.index
 have k5:=far_k hL
 have k6:=far_k hR
 have kt:=zao r hf.small
 have hne:=hM.ne
 have hto:=hM.to
 have hl0:=hf.log
 have hT0:=hf.term
 have k2:Ctr Tryz.prog 88 [iv 6,iv 1,iv 8] (bv true) []:=by
  have:=zay 6 1 8
  rwa [decide_eq_true (show 1≤(6:Int)∧(6:Int)≤8 from by decide)] at this
 have hfx:=hf
 have hxid:r.id=r.id:=rfl
 have hg1:¬ m.term > r.hard.term:=by omega
 have hx0:¬ m.term < r.hard.term:=by omega
 have hlx:=hfx.log
 have hTx:=hfx.term
 have hmx:r.hard.log.length≤maxLen:=zak (by omega)
 refine sBody Tryz.func40 ?_;conv=>whnf
 ((try (refine Exists.intro none ?_;conv=>whnf));(with_reducible refine zaa (k1) ?_);conv=>whnf)
 (first | refine tYes ?_ | refine tNo ?_)
 conv=>whnf
 (first | refine tYes ?_ | refine tNo ?_)
 conv=>whnf
 ((try (refine Exists.intro none ?_;conv=>whnf));(with_reducible refine zaa (k2) ?_);conv=>whnf)
 ((try (refine Exists.intro none ?_;conv=>whnf));(with_reducible refine zaa (k3) ?_);conv=>whnf)
 ((try (refine Exists.intro none ?_;conv=>whnf));(with_reducible refine zaa (k4) ?_);conv=>whnf)
 ((try (refine Exists.intro none ?_;conv=>whnf));(with_reducible refine zaa (k5) ?_);conv=>whnf)
 ((try (refine Exists.intro none ?_;conv=>whnf));(with_reducible refine zaa (k6) ?_);conv=>whnf)
 ((try (refine Exists.intro none ?_;conv=>whnf));(with_reducible refine zaa (kt) ?_);conv=>whnf)
 (refine tNew0 ?_;conv=>whnf)
 (first | refine tYes ?_ | refine tNo ?_)
 conv=>whnf
 (first | refine tYes ?_ | refine tNo ?_)
 conv=>whnf
 by_cases hro:r.role=3
 ·have kl:=zmw r hfx hro (mkM m 6) hM.frm hM.index hmt
  generalize zcj r (mkM m 6)=z at *
  (first | refine tYes ?_ | refine tNo ?_)
  conv=>whnf
  ((refine Exists.intro (some ([(1000000,2)],[],[])) ?_);(conv=>whnf);refine zax (kl) (by kernel_rfl) (by kernel_rfl) (by kernel_rfl) ?_;conv=>whnf)
  exact zat [] (by intro q hq;cases hq) (zah ⟨zag agD,(by (conv=>whnf);exact .inr (.inl ⟨rfl,rfl⟩)),zaj _ rfl,rfl⟩)
 ·have e:zcj r (mkM m 6)=r:=by unfold zcj;rw [if_neg hro]
  rw [e]
  (first | refine tYes ?_ | refine tNo ?_)
  conv=>whnf
  exact zat [] (by intro q hq;cases hq) (zah ⟨zag agD,(by (conv=>whnf);exact .inr (.inl ⟨rfl,rfl⟩)),zaj _ rfl,rfl⟩)
set_option maxHeartbeats 8000000 in
theorem zsg (r:Rft) (hf:Fit r) (m:Mg) (hM:RightM r m) (hL:0≤m.logTerm∧m.logTerm≤far) (hR:0≤m.round∧m.round≤far) (hgt:r.hard.term < m.term) (hmt:∀ i,i < 7→0≤(fallR r m.term (-1)).mtch.at i∧(fallR r m.term (-1)).mtch.at i≤lastI (fallR r m.term (-1)).hard):Ctr Tryz.prog 40 [.ag r.enc,.ag (mkM m 6).enc] (.tu [.ag (zcj (fallR r m.term (-1)) (mkM m 6)).enc,.sl 16 ([]),iv 0]) []:=by
 have k1:Ctr Tryz.prog 57 [iv m.frm] (bv true) []:=by
  have:=zcc m.frm
  rwa [show zap m.frm 0 6=true from by unfold zap;rw [Bool.and_eq_true,decide_eq_true_eq,decide_eq_true_eq];have:=hM.frm;omega] at this
 have k3:=far_k hM.term
 have k4:=far_k hM.index
 have k5:=far_k hL
 have k6:=far_k hR
 have kt:=zao r hf.small
 have hne:=hM.ne
 have hto:=hM.to
 have hl0:=hf.log
 have hT0:=hf.term
 have k2:Ctr Tryz.prog 88 [iv 6,iv 1,iv 8] (bv true) []:=by
  have:=zay 6 1 8
  rwa [decide_eq_true (show 1≤(6:Int)∧(6:Int)≤8 from by decide)] at this
 have kf:=zck r (zak (by omega)) m.term (-1)
 have hfx:=zb3 hf (t:=m.term) (by have:=hM.term;omega) (-1)
 have hxt:=zbq hgt (-1)
 have hxid:(fallR r m.term (-1)).id=r.id:=rfl
 generalize fallR r m.term (-1)=x at *
 have hg1:m.term > r.hard.term:=hgt
 have hx0:¬ m.term < x.hard.term:=by omega
 have hlx:=hfx.log
 have hTx:=hfx.term
 have hmx:x.hard.log.length≤maxLen:=zak (by omega)
 refine sBody Tryz.func40 ?_;conv=>whnf
 ((try (refine Exists.intro none ?_;conv=>whnf));(with_reducible refine zaa (k1) ?_);conv=>whnf)
 (first | refine tYes ?_ | refine tNo ?_)
 conv=>whnf
 (first | refine tYes ?_ | refine tNo ?_)
 conv=>whnf
 ((try (refine Exists.intro none ?_;conv=>whnf));(with_reducible refine zaa (k2) ?_);conv=>whnf)
 ((try (refine Exists.intro none ?_;conv=>whnf));(with_reducible refine zaa (k3) ?_);conv=>whnf)
 ((try (refine Exists.intro none ?_;conv=>whnf));(with_reducible refine zaa (k4) ?_);conv=>whnf)
 ((try (refine Exists.intro none ?_;conv=>whnf));(with_reducible refine zaa (k5) ?_);conv=>whnf)
 ((try (refine Exists.intro none ?_;conv=>whnf));(with_reducible refine zaa (k6) ?_);conv=>whnf)
 ((try (refine Exists.intro none ?_;conv=>whnf));(with_reducible refine zaa (kt) ?_);conv=>whnf)
 (refine tNew0 ?_;conv=>whnf)
 (first | refine tYes ?_ | refine tNo ?_)
 conv=>whnf
 ((refine Exists.intro (some ([(1000000,2)],[],[])) ?_);(conv=>whnf);refine zax (kf) (by kernel_rfl) (by kernel_rfl) (by kernel_rfl) ?_;conv=>whnf)
 (first | refine tYes ?_ | refine tNo ?_)
 conv=>whnf
 by_cases hro:x.role=3
 ·have kl:=zmw x hfx hro (mkM m 6) hM.frm hM.index hmt
  generalize zcj x (mkM m 6)=z at *
  (first | refine tYes ?_ | refine tNo ?_)
  conv=>whnf
  ((refine Exists.intro (some ([(1000000,2)],[],[])) ?_);(conv=>whnf);refine zax (kl) (by kernel_rfl) (by kernel_rfl) (by kernel_rfl) ?_;conv=>whnf)
  exact zat [] (by intro q hq;cases hq) (zah ⟨zag agD,(by (conv=>whnf);exact .inr (.inl ⟨rfl,rfl⟩)),zaj _ rfl,rfl⟩)
 ·have e:zcj x (mkM m 6)=x:=by unfold zcj;rw [if_neg hro]
  rw [e]
  (first | refine tYes ?_ | refine tNo ?_)
  conv=>whnf
  exact zat [] (by intro q hq;cases hq) (zah ⟨zag agD,(by (conv=>whnf);exact .inr (.inl ⟨rfl,rfl⟩)),zaj _ rfl,rfl⟩)
set_option maxHeartbeats 8000000 in
theorem zuc (r:Rft) (hf:Fit r) (m:Mg) (hM:RightM r m) (hL:0≤m.logTerm∧m.logTerm≤far) (hR:0≤m.round∧m.round≤far) (heq:m.term=r.hard.term)  : Ctr Tryz.prog 40 [.ag r.enc,.ag (mkM m 8).enc] (.tu [.ag (k8R r (mkM m 8)).enc,.sl 16 (k8O r (mkM m 8)),iv 0]) []:=by
 have k1:Ctr Tryz.prog 57 [iv m.frm] (bv true) []:=by
  have:=zcc m.frm
  rwa [show zap m.frm 0 6=true from by unfold zap;rw [Bool.and_eq_true,decide_eq_true_eq,decide_eq_true_eq];have:=hM.frm;omega] at this
 have k3:=far_k hM.term
 have k4:=far_k hM.index
 have k5:=far_k hL
 have k6:=far_k hR
 have kt:=zao r hf.small
 have hne:=hM.ne
 have hto:=hM.to
 have hl0:=hf.log
 have hT0:=hf.term
 have k2:Ctr Tryz.prog 88 [iv 8,iv 1,iv 8] (bv true) []:=by
  have:=zay 8 1 8
  rwa [decide_eq_true (show 1≤(8:Int)∧(8:Int)≤8 from by decide)] at this
 have hfx:=hf
 have hxid:r.id=r.id:=rfl
 have hg1:¬ m.term > r.hard.term:=by omega
 have hx0:¬ m.term < r.hard.term:=by omega
 have hlx:=hfx.log
 have hTx:=hfx.term
 have hmx:r.hard.log.length≤maxLen:=zak (by omega)
 have kv:=zin r hmx
 have kst:=zg8 r hfx
 have hlf:=hfx.id
 unfold k8R k8O
 refine sBody Tryz.func40 ?_;conv=>whnf
 ((try (refine Exists.intro none ?_;conv=>whnf));(with_reducible refine zaa (k1) ?_);conv=>whnf)
 (first | refine tYes ?_ | refine tNo ?_)
 conv=>whnf
 (first | refine tYes ?_ | refine tNo ?_)
 conv=>whnf
 ((try (refine Exists.intro none ?_;conv=>whnf));(with_reducible refine zaa (k2) ?_);conv=>whnf)
 ((try (refine Exists.intro none ?_;conv=>whnf));(with_reducible refine zaa (k3) ?_);conv=>whnf)
 ((try (refine Exists.intro none ?_;conv=>whnf));(with_reducible refine zaa (k4) ?_);conv=>whnf)
 ((try (refine Exists.intro none ?_;conv=>whnf));(with_reducible refine zaa (k5) ?_);conv=>whnf)
 ((try (refine Exists.intro none ?_;conv=>whnf));(with_reducible refine zaa (k6) ?_);conv=>whnf)
 ((try (refine Exists.intro none ?_;conv=>whnf));(with_reducible refine zaa (kt) ?_);conv=>whnf)
 (refine tNew0 ?_;conv=>whnf)
 (first | refine tYes ?_ | refine tNo ?_)
 conv=>whnf
 (first | refine tYes ?_ | refine tNo ?_)
 conv=>whnf
 cases hv:zcf r with
 | true =>
  rw [show bitB (bor (zac r).full (zac r).wit) r.id=true from hv] at kv
  rw [if_pos rfl,if_pos rfl]
  ((try ((refine Exists.intro none ?_);(conv=>whnf)));refine zai (kv) (by kernel_rfl) ?_;conv=>whnf)
  by_cases hle:r.lead=m.frm
  ·rw [if_pos (show r.lead=(mkM m 8).frm from hle),if_pos (show r.lead=(mkM m 8).frm from hle)]
   (first | refine tYes ?_ | refine tNo ?_)
   conv=>whnf
   ((refine Exists.intro (some ([(1000000,2)],[],[])) ?_);(conv=>whnf);refine zax (kst) (by kernel_rfl) (by kernel_rfl) (by kernel_rfl) ?_;conv=>whnf)
   exact zat [] (by intro q hq;cases hq) (zah ⟨zag agD,zaj _ rfl,zaj _ rfl,rfl⟩)
  ·rw [if_neg (show ¬ r.lead=(mkM m 8).frm from hle),if_neg (show ¬ r.lead=(mkM m 8).frm from hle)]
   (first | refine tYes ?_ | refine tNo ?_)
   conv=>whnf
   exact zat [] (by intro q hq;cases hq) (zah ⟨zag agD,(by (conv=>whnf);exact .inr (.inl ⟨rfl,rfl⟩)),zaj _ rfl,rfl⟩)
 | false =>
  rw [show bitB (bor (zac r).full (zac r).wit) r.id=false from hv] at kv
  rw [if_neg (show ¬ false=true by decide),if_neg (show ¬ false=true by decide)]
  ((try ((refine Exists.intro none ?_);(conv=>whnf)));refine zai (kv) (by kernel_rfl) ?_;conv=>whnf)
  exact zat [] (by intro q hq;cases hq) (zah ⟨zag agD,(by (conv=>whnf);exact .inr (.inl ⟨rfl,rfl⟩)),zaj _ rfl,rfl⟩)
set_option maxHeartbeats 8000000 in
theorem zrt (r:Rft) (hf:Fit r) (m:Mg) (hM:RightM r m) (hL:0≤m.logTerm∧m.logTerm≤far) (hR:0≤m.round∧m.round≤far) (hgt:r.hard.term < m.term)  : Ctr Tryz.prog 40 [.ag r.enc,.ag (mkM m 8).enc] (.tu [.ag (k8R (fallR r m.term (-1)) (mkM m 8)).enc,.sl 16 (k8O (fallR r m.term (-1)) (mkM m 8)),iv 0]) []:=by
 have k1:Ctr Tryz.prog 57 [iv m.frm] (bv true) []:=by
  have:=zcc m.frm
  rwa [show zap m.frm 0 6=true from by unfold zap;rw [Bool.and_eq_true,decide_eq_true_eq,decide_eq_true_eq];have:=hM.frm;omega] at this
 have k3:=far_k hM.term
 have k4:=far_k hM.index
 have k5:=far_k hL
 have k6:=far_k hR
 have kt:=zao r hf.small
 have hne:=hM.ne
 have hto:=hM.to
 have hl0:=hf.log
 have hT0:=hf.term
 have k2:Ctr Tryz.prog 88 [iv 8,iv 1,iv 8] (bv true) []:=by
  have:=zay 8 1 8
  rwa [decide_eq_true (show 1≤(8:Int)∧(8:Int)≤8 from by decide)] at this
 have kf:=zck r (zak (by omega)) m.term (-1)
 have hfx:=zb3 hf (t:=m.term) (by have:=hM.term;omega) (-1)
 have hxt:=zbq hgt (-1)
 have hxid:(fallR r m.term (-1)).id=r.id:=rfl
 generalize fallR r m.term (-1)=x at *
 have hg1:m.term > r.hard.term:=hgt
 have hx0:¬ m.term < x.hard.term:=by omega
 have hlx:=hfx.log
 have hTx:=hfx.term
 have hmx:x.hard.log.length≤maxLen:=zak (by omega)
 have kv:=zin x hmx
 have kst:=zg8 x hfx
 have hlf:=hfx.id
 unfold k8R k8O
 refine sBody Tryz.func40 ?_;conv=>whnf
 ((try (refine Exists.intro none ?_;conv=>whnf));(with_reducible refine zaa (k1) ?_);conv=>whnf)
 (first | refine tYes ?_ | refine tNo ?_)
 conv=>whnf
 (first | refine tYes ?_ | refine tNo ?_)
 conv=>whnf
 ((try (refine Exists.intro none ?_;conv=>whnf));(with_reducible refine zaa (k2) ?_);conv=>whnf)
 ((try (refine Exists.intro none ?_;conv=>whnf));(with_reducible refine zaa (k3) ?_);conv=>whnf)
 ((try (refine Exists.intro none ?_;conv=>whnf));(with_reducible refine zaa (k4) ?_);conv=>whnf)
 ((try (refine Exists.intro none ?_;conv=>whnf));(with_reducible refine zaa (k5) ?_);conv=>whnf)
 ((try (refine Exists.intro none ?_;conv=>whnf));(with_reducible refine zaa (k6) ?_);conv=>whnf)
 ((try (refine Exists.intro none ?_;conv=>whnf));(with_reducible refine zaa (kt) ?_);conv=>whnf)
 (refine tNew0 ?_;conv=>whnf)
 (first | refine tYes ?_ | refine tNo ?_)
 conv=>whnf
 ((refine Exists.intro (some ([(1000000,2)],[],[])) ?_);(conv=>whnf);refine zax (kf) (by kernel_rfl) (by kernel_rfl) (by kernel_rfl) ?_;conv=>whnf)
 (first | refine tYes ?_ | refine tNo ?_)
 conv=>whnf
 cases hv:zcf x with
 | true =>
  rw [show bitB (bor (zac x).full (zac x).wit) x.id=true from hv] at kv
  rw [if_pos rfl,if_pos rfl]
  ((try ((refine Exists.intro none ?_);(conv=>whnf)));refine zai (kv) (by kernel_rfl) ?_;conv=>whnf)
  by_cases hle:x.lead=m.frm
  ·rw [if_pos (show x.lead=(mkM m 8).frm from hle),if_pos (show x.lead=(mkM m 8).frm from hle)]
   (first | refine tYes ?_ | refine tNo ?_)
   conv=>whnf
   ((refine Exists.intro (some ([(1000000,2)],[],[])) ?_);(conv=>whnf);refine zax (kst) (by kernel_rfl) (by kernel_rfl) (by kernel_rfl) ?_;conv=>whnf)
   exact zat [] (by intro q hq;cases hq) (zah ⟨zag agD,zaj _ rfl,zaj _ rfl,rfl⟩)
  ·rw [if_neg (show ¬ x.lead=(mkM m 8).frm from hle),if_neg (show ¬ x.lead=(mkM m 8).frm from hle)]
   (first | refine tYes ?_ | refine tNo ?_)
   conv=>whnf
   exact zat [] (by intro q hq;cases hq) (zah ⟨zag agD,(by (conv=>whnf);exact .inr (.inl ⟨rfl,rfl⟩)),zaj _ rfl,rfl⟩)
 | false =>
  rw [show bitB (bor (zac x).full (zac x).wit) x.id=false from hv] at kv
  rw [if_neg (show ¬ false=true by decide),if_neg (show ¬ false=true by decide)]
  ((try ((refine Exists.intro none ?_);(conv=>whnf)));refine zai (kv) (by kernel_rfl) ?_;conv=>whnf)
  exact zat [] (by intro q hq;cases hq) (zah ⟨zag agD,(by (conv=>whnf);exact .inr (.inl ⟨rfl,rfl⟩)),zaj _ rfl,rfl⟩)
end Go.Proofs
