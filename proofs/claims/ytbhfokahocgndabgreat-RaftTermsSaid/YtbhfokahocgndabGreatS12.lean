import Derived.Test.YtbhfokahocgndabGreatS1
import Derived.Test.YtbhfokahocgndabGreatI1
import Derived.Test.YtbhfokahocgndabGreatC1
import Derived.Test.YtbhfokahocgndabGreatQ5
/- Contracts of functions: a message is taken by a page's replica: whether it may come. -/
set_option linter.unusedSimpArgs false
set_option linter.unusedVariables false
namespace Go.Proofs
open Go.Pv
set_option maxRecDepth 100000
theorem zr2 (x g:Int):zap x 0 g=inR g x:=by
 unfold zap inR
 rw [Bool.eq_iff_iff]
 simp only [Bool.and_eq_true,decide_eq_true_eq]
theorem kind_in (x:Int):decide (1≤x∧x≤8)=(decide (1≤x) && decide (x≤8)):=by
 rw [Bool.eq_iff_iff]
 simp only [Bool.and_eq_true,decide_eq_true_eq]
set_option maxHeartbeats 4000000 in
theorem zpq (r:Rft) (m:Mg) (hm:zeg r m=false):Ctr Tryz.prog 40 [.ag r.enc,.ag m.enc] (.tu [.ag rzv,.nl,iv 1]) []:=by
 have k1:=zcc m.frm
 rw [zr2] at k1
 have k2:=zay m.kind 1 8
 rw [kind_in] at k2
 have k3:Ctr Tryz.prog 88 [iv m.term,iv 0,iv far] (bv (inR far m.term)) []:=zay m.term 0 far
 have k4:Ctr Tryz.prog 88 [iv m.index,iv 0,iv far] (bv (inR far m.index)) []:=zay m.index 0 far
 have k5:Ctr Tryz.prog 88 [iv m.logTerm,iv 0,iv far] (bv (inR far m.logTerm)) []:=zay m.logTerm 0 far
 have k6:Ctr Tryz.prog 88 [iv m.round,iv 0,iv far] (bv (inR far m.round)) []:=zay m.round 0 far
 unfold zeg at hm
 generalize inR 6 m.frm=b1 at *
 generalize decide (1≤m.kind)=z1 at *
 generalize decide (m.kind≤8)=z2 at *
 generalize inR far m.term=b3 at *
 generalize inR far m.index=b4 at *
 generalize inR far m.logTerm=b5 at *
 generalize inR far m.round=b6 at *
 cases b1 with
 | false =>
  refine sBody Tryz.func40 ?_;conv=>whnf
  ((try (refine Exists.intro none ?_;conv=>whnf));(with_reducible refine zaa (k1) ?_);conv=>whnf)
  exact zab rfl rfl
 | true =>
 by_cases h1:m.frm=r.id
 ·refine sBody Tryz.func40 ?_;conv=>whnf
  ((try (refine Exists.intro none ?_;conv=>whnf));(with_reducible refine zaa (k1) ?_);conv=>whnf)
  (first | refine tYes ?_ | refine tNo ?_)
  conv=>whnf
  exact zab rfl rfl
 by_cases h2:m.to=r.id
 case neg =>
  refine sBody Tryz.func40 ?_;conv=>whnf
  ((try (refine Exists.intro none ?_;conv=>whnf));(with_reducible refine zaa (k1) ?_);conv=>whnf)
  (first | refine tYes ?_ | refine tNo ?_)
  conv=>whnf
  (first | refine tYes ?_ | refine tNo ?_)
  conv=>whnf
  exact zab rfl rfl
 cases hk:(z1 && z2) with
 | false =>
  rw [hk] at k2
  refine sBody Tryz.func40 ?_;conv=>whnf
  ((try (refine Exists.intro none ?_;conv=>whnf));(with_reducible refine zaa (k1) ?_);conv=>whnf)
  (first | refine tYes ?_ | refine tNo ?_)
  conv=>whnf
  (first | refine tYes ?_ | refine tNo ?_)
  conv=>whnf
  ((try (refine Exists.intro none ?_;conv=>whnf));(with_reducible refine zaa (k2) ?_);conv=>whnf)
  exact zab rfl rfl
 | true =>
 rw [hk] at k2
 cases b3 with
 | false =>
  refine sBody Tryz.func40 ?_;conv=>whnf
  ((try (refine Exists.intro none ?_;conv=>whnf));(with_reducible refine zaa (k1) ?_);conv=>whnf)
  (first | refine tYes ?_ | refine tNo ?_)
  conv=>whnf
  (first | refine tYes ?_ | refine tNo ?_)
  conv=>whnf
  ((try (refine Exists.intro none ?_;conv=>whnf));(with_reducible refine zaa (k2) ?_);conv=>whnf)
  ((try (refine Exists.intro none ?_;conv=>whnf));(with_reducible refine zaa (k3) ?_);conv=>whnf)
  exact zab rfl rfl
 | true =>
 cases b4 with
 | false =>
  refine sBody Tryz.func40 ?_;conv=>whnf
  ((try (refine Exists.intro none ?_;conv=>whnf));(with_reducible refine zaa (k1) ?_);conv=>whnf)
  (first | refine tYes ?_ | refine tNo ?_)
  conv=>whnf
  (first | refine tYes ?_ | refine tNo ?_)
  conv=>whnf
  ((try (refine Exists.intro none ?_;conv=>whnf));(with_reducible refine zaa (k2) ?_);conv=>whnf)
  ((try (refine Exists.intro none ?_;conv=>whnf));(with_reducible refine zaa (k3) ?_);conv=>whnf)
  ((try (refine Exists.intro none ?_;conv=>whnf));(with_reducible refine zaa (k4) ?_);conv=>whnf)
  exact zab rfl rfl
 | true =>
 cases b5 with
 | false =>
  refine sBody Tryz.func40 ?_;conv=>whnf
  ((try (refine Exists.intro none ?_;conv=>whnf));(with_reducible refine zaa (k1) ?_);conv=>whnf)
  (first | refine tYes ?_ | refine tNo ?_)
  conv=>whnf
  (first | refine tYes ?_ | refine tNo ?_)
  conv=>whnf
  ((try (refine Exists.intro none ?_;conv=>whnf));(with_reducible refine zaa (k2) ?_);conv=>whnf)
  ((try (refine Exists.intro none ?_;conv=>whnf));(with_reducible refine zaa (k3) ?_);conv=>whnf)
  ((try (refine Exists.intro none ?_;conv=>whnf));(with_reducible refine zaa (k4) ?_);conv=>whnf)
  ((try (refine Exists.intro none ?_;conv=>whnf));(with_reducible refine zaa (k5) ?_);conv=>whnf)
  exact zab rfl rfl
 | true =>
 cases b6 with
 | false =>
  refine sBody Tryz.func40 ?_;conv=>whnf
  ((try (refine Exists.intro none ?_;conv=>whnf));(with_reducible refine zaa (k1) ?_);conv=>whnf)
  (first | refine tYes ?_ | refine tNo ?_)
  conv=>whnf
  (first | refine tYes ?_ | refine tNo ?_)
  conv=>whnf
  ((try (refine Exists.intro none ?_;conv=>whnf));(with_reducible refine zaa (k2) ?_);conv=>whnf)
  ((try (refine Exists.intro none ?_;conv=>whnf));(with_reducible refine zaa (k3) ?_);conv=>whnf)
  ((try (refine Exists.intro none ?_;conv=>whnf));(with_reducible refine zaa (k4) ?_);conv=>whnf)
  ((try (refine Exists.intro none ?_;conv=>whnf));(with_reducible refine zaa (k5) ?_);conv=>whnf)
  ((try (refine Exists.intro none ?_;conv=>whnf));(with_reducible refine zaa (k6) ?_);conv=>whnf)
  exact zab rfl rfl
 | true =>
  rw [Bool.and_eq_true] at hk
  rw [hk.1,hk.2,decide_eq_true h1,decide_eq_true h2] at hm
  cases hm
set_option maxHeartbeats 8000000 in
theorem zwm (r:Rft) (hf:Fit r) (m:Mg) (hM:RightM r m) (hL:0≤m.logTerm∧m.logTerm≤far) (hR:0≤m.round∧m.round≤far):Ctr Tryz.prog 40 [.ag r.enc,.ag (mkM m 1).enc] (.tu [.ag (r).enc,.sl 16 (zj0 r (mkM m 1)),iv 0]) []:=by
 have k1:Ctr Tryz.prog 57 [iv m.frm] (bv true) []:=by
  have:=zcc m.frm
  rwa [show zap m.frm 0 6=true from by unfold zap;rw [Bool.and_eq_true,decide_eq_true_eq,decide_eq_true_eq];have:=hM.frm;omega] at this
 have k3:=far_k hM.term
 have k4:=far_k hM.index
 have k5:=far_k hL
 have k6:=far_k hR
 have kt:=zao r hf.small
 have hne:=hM.ne
 have hto:=hM.to
 have hl0:=hf.log
 have hT0:=hf.term
 have k2:Ctr Tryz.prog 88 [iv 1,iv 1,iv 8] (bv true) []:=by
  have:=zay 1 1 8
  rwa [decide_eq_true (show 1≤(1:Int)∧(1:Int)≤8 from by decide)] at this
 have kb:=zju r (mkM m 1) 2
 have ka:=zxz r (zak (by omega)) (mkM m 1)
 unfold zj0
 refine sBody Tryz.func40 ?_;conv=>whnf
 ((try (refine Exists.intro none ?_;conv=>whnf));(with_reducible refine zaa (k1) ?_);conv=>whnf)
 (first | refine tYes ?_ | refine tNo ?_)
 conv=>whnf
 (first | refine tYes ?_ | refine tNo ?_)
 conv=>whnf
 ((try (refine Exists.intro none ?_;conv=>whnf));(with_reducible refine zaa (k2) ?_);conv=>whnf)
 ((try (refine Exists.intro none ?_;conv=>whnf));(with_reducible refine zaa (k3) ?_);conv=>whnf)
 ((try (refine Exists.intro none ?_;conv=>whnf));(with_reducible refine zaa (k4) ?_);conv=>whnf)
 ((try (refine Exists.intro none ?_;conv=>whnf));(with_reducible refine zaa (k5) ?_);conv=>whnf)
 ((try (refine Exists.intro none ?_;conv=>whnf));(with_reducible refine zaa (k6) ?_);conv=>whnf)
 ((try (refine Exists.intro none ?_;conv=>whnf));(with_reducible refine zaa (kt) ?_);conv=>whnf)
 (refine tNew0 ?_;conv=>whnf)
 refine (show _ from ?_)
 by_cases hgt:r.hard.term < m.term
 all_goals
  (first | refine tYes ?_ | refine tNo ?_)
  conv=>whnf
  ((try (refine Exists.intro none ?_;conv=>whnf));(with_reducible refine zaa (kb) ?_);conv=>whnf)
  ((try ((refine Exists.intro none ?_);(conv=>whnf)));refine zai (ka) (by kernel_rfl) ?_;conv=>whnf)
  cases hq:asked r (mkM m 1) with
  | true =>
   rw [if_pos rfl]
   exact zat [] (by intro q hq;cases hq) (zah ⟨zag agD,(by (conv=>whnf);exact .inl (by kernel_rfl)),zaj _ rfl,rfl⟩)
  | false =>
   rw [if_neg (show ¬ false=true by decide)]
   exact zat [] (by intro q hq;cases hq) (zah ⟨zag agD,(by (conv=>whnf);exact .inl (by kernel_rfl)),zaj _ rfl,rfl⟩)
set_option maxHeartbeats 8000000 in
theorem zps (r:Rft) (hf:Fit r) (m:Mg) (hM:RightM r m) (hL:0≤m.logTerm∧m.logTerm≤far) (hR:0≤m.round∧m.round≤far) (hk:¬ m.kind=1) (hlt:m.term < r.hard.term):Ctr Tryz.prog 40 [.ag r.enc,.ag m.enc] (.tu [.ag (r).enc,.sl 16 (zh8 r m),iv 0]) []:=by
 have k1:Ctr Tryz.prog 57 [iv m.frm] (bv true) []:=by
  have:=zcc m.frm
  rwa [show zap m.frm 0 6=true from by unfold zap;rw [Bool.and_eq_true,decide_eq_true_eq,decide_eq_true_eq];have:=hM.frm;omega] at this
 have k3:=far_k hM.term
 have k4:=far_k hM.index
 have k5:=far_k hL
 have k6:=far_k hR
 have kt:=zao r hf.small
 have hne:=hM.ne
 have hto:=hM.to
 have hl0:=hf.log
 have hT0:=hf.term
 have k2:Ctr Tryz.prog 88 [iv m.kind,iv 1,iv 8] (bv true) []:=by
  have:=zay m.kind 1 8
  rwa [decide_eq_true (show 1≤m.kind∧m.kind≤8 from hM.kind)] at this
 have hng:¬ m.term > r.hard.term:=by omega
 have ke:=c_zlate r m
 refine sBody Tryz.func40 ?_;conv=>whnf
 ((try (refine Exists.intro none ?_;conv=>whnf));(with_reducible refine zaa (k1) ?_);conv=>whnf)
 (first | refine tYes ?_ | refine tNo ?_)
 conv=>whnf
 (first | refine tYes ?_ | refine tNo ?_)
 conv=>whnf
 ((try (refine Exists.intro none ?_;conv=>whnf));(with_reducible refine zaa (k2) ?_);conv=>whnf)
 ((try (refine Exists.intro none ?_;conv=>whnf));(with_reducible refine zaa (k3) ?_);conv=>whnf)
 ((try (refine Exists.intro none ?_;conv=>whnf));(with_reducible refine zaa (k4) ?_);conv=>whnf)
 ((try (refine Exists.intro none ?_;conv=>whnf));(with_reducible refine zaa (k5) ?_);conv=>whnf)
 ((try (refine Exists.intro none ?_;conv=>whnf));(with_reducible refine zaa (k6) ?_);conv=>whnf)
 ((try (refine Exists.intro none ?_;conv=>whnf));(with_reducible refine zaa (kt) ?_);conv=>whnf)
 (refine tNew0 ?_;conv=>whnf)
 (first | refine tYes ?_ | refine tNo ?_)
 conv=>whnf
 (first | refine tYes ?_ | refine tNo ?_)
 conv=>whnf
 (first | refine tYes ?_ | refine tNo ?_)
 conv=>whnf
 ((try ((refine Exists.intro none ?_);(conv=>whnf)));refine zai (ke) (by kernel_rfl) ?_;conv=>whnf)
 (refine tNew0 ?_;conv=>whnf)
 exact zat [] (by intro q hq;cases hq) (zah ⟨zag agD,zaj _ rfl,zaj _ rfl,rfl⟩)
set_option maxHeartbeats 8000000 in
theorem zth (r:Rft) (hf:Fit r) (m:Mg) (hM:RightM r m) (hL:0≤m.logTerm∧m.logTerm≤far) (hR:0≤m.round∧m.round≤far) (heq:m.term=r.hard.term)  : Ctr Tryz.prog 40 [.ag r.enc,.ag (mkY m 2 false).enc] (.tu [.ag (r).enc,.sl 16 ([]),iv 0]) []:=by
 have k1:Ctr Tryz.prog 57 [iv m.frm] (bv true) []:=by
  have:=zcc m.frm
  rwa [show zap m.frm 0 6=true from by unfold zap;rw [Bool.and_eq_true,decide_eq_true_eq,decide_eq_true_eq];have:=hM.frm;omega] at this
 have k3:=far_k hM.term
 have k4:=far_k hM.index
 have k5:=far_k hL
 have k6:=far_k hR
 have kt:=zao r hf.small
 have hne:=hM.ne
 have hto:=hM.to
 have hl0:=hf.log
 have hT0:=hf.term
 have k2:Ctr Tryz.prog 88 [iv 2,iv 1,iv 8] (bv true) []:=by
  have:=zay 2 1 8
  rwa [decide_eq_true (show 1≤(2:Int)∧(2:Int)≤8 from by decide)] at this
 have hfx:=hf
 have hxid:r.id=r.id:=rfl
 have hg1:¬ m.term > r.hard.term:=by omega
 have hx0:¬ m.term < r.hard.term:=by omega
 have hlx:=hfx.log
 have hTx:=hfx.term
 have hmx:r.hard.log.length≤maxLen:=zak (by omega)
 refine sBody Tryz.func40 ?_;conv=>whnf
 ((try (refine Exists.intro none ?_;conv=>whnf));(with_reducible refine zaa (k1) ?_);conv=>whnf)
 (first | refine tYes ?_ | refine tNo ?_)
 conv=>whnf
 (first | refine tYes ?_ | refine tNo ?_)
 conv=>whnf
 ((try (refine Exists.intro none ?_;conv=>whnf));(with_reducible refine zaa (k2) ?_);conv=>whnf)
 ((try (refine Exists.intro none ?_;conv=>whnf));(with_reducible refine zaa (k3) ?_);conv=>whnf)
 ((try (refine Exists.intro none ?_;conv=>whnf));(with_reducible refine zaa (k4) ?_);conv=>whnf)
 ((try (refine Exists.intro none ?_;conv=>whnf));(with_reducible refine zaa (k5) ?_);conv=>whnf)
 ((try (refine Exists.intro none ?_;conv=>whnf));(with_reducible refine zaa (k6) ?_);conv=>whnf)
 ((try (refine Exists.intro none ?_;conv=>whnf));(with_reducible refine zaa (kt) ?_);conv=>whnf)
 (refine tNew0 ?_;conv=>whnf)
 (first | refine tYes ?_ | refine tNo ?_)
 conv=>whnf
 (first | refine tYes ?_ | refine tNo ?_)
 conv=>whnf
 by_cases hro:r.role=1
 all_goals
  (first | refine tYes ?_ | refine tNo ?_)
  conv=>whnf
  exact zat [] (by intro q hq;cases hq) (zah ⟨zag agD,(by (conv=>whnf);exact .inr (.inl ⟨rfl,rfl⟩)),zaj _ rfl,rfl⟩)
set_option maxHeartbeats 8000000 in
theorem zo4 (r:Rft) (hf:Fit r) (m:Mg) (hM:RightM r m) (hL:0≤m.logTerm∧m.logTerm≤far) (hR:0≤m.round∧m.round≤far) (hgt:r.hard.term < m.term)  : Ctr Tryz.prog 40 [.ag r.enc,.ag (mkY m 2 false).enc] (.tu [.ag ((fallR r m.term (-1))).enc,.sl 16 ([]),iv 0]) []:=by
 have k1:Ctr Tryz.prog 57 [iv m.frm] (bv true) []:=by
  have:=zcc m.frm
  rwa [show zap m.frm 0 6=true from by unfold zap;rw [Bool.and_eq_true,decide_eq_true_eq,decide_eq_true_eq];have:=hM.frm;omega] at this
 have k3:=far_k hM.term
 have k4:=far_k hM.index
 have k5:=far_k hL
 have k6:=far_k hR
 have kt:=zao r hf.small
 have hne:=hM.ne
 have hto:=hM.to
 have hl0:=hf.log
 have hT0:=hf.term
 have k2:Ctr Tryz.prog 88 [iv 2,iv 1,iv 8] (bv true) []:=by
  have:=zay 2 1 8
  rwa [decide_eq_true (show 1≤(2:Int)∧(2:Int)≤8 from by decide)] at this
 have kf:=zck r (zak (by omega)) m.term (-1)
 have hfx:=zb3 hf (t:=m.term) (by have:=hM.term;omega) (-1)
 have hxt:=zbq hgt (-1)
 have hxid:(fallR r m.term (-1)).id=r.id:=rfl
 have hg1:m.term > r.hard.term:=hgt
 have hx0:¬ m.term < (fallR r m.term (-1)).hard.term:=by omega
 have hlx:=hfx.log
 have hTx:=hfx.term
 have hmx:(fallR r m.term (-1)).hard.log.length≤maxLen:=zak (by omega)
 refine sBody Tryz.func40 ?_;conv=>whnf
 ((try (refine Exists.intro none ?_;conv=>whnf));(with_reducible refine zaa (k1) ?_);conv=>whnf)
 (first | refine tYes ?_ | refine tNo ?_)
 conv=>whnf
 (first | refine tYes ?_ | refine tNo ?_)
 conv=>whnf
 ((try (refine Exists.intro none ?_;conv=>whnf));(with_reducible refine zaa (k2) ?_);conv=>whnf)
 ((try (refine Exists.intro none ?_;conv=>whnf));(with_reducible refine zaa (k3) ?_);conv=>whnf)
 ((try (refine Exists.intro none ?_;conv=>whnf));(with_reducible refine zaa (k4) ?_);conv=>whnf)
 ((try (refine Exists.intro none ?_;conv=>whnf));(with_reducible refine zaa (k5) ?_);conv=>whnf)
 ((try (refine Exists.intro none ?_;conv=>whnf));(with_reducible refine zaa (k6) ?_);conv=>whnf)
 ((try (refine Exists.intro none ?_;conv=>whnf));(with_reducible refine zaa (kt) ?_);conv=>whnf)
 (refine tNew0 ?_;conv=>whnf)
 (first | refine tYes ?_ | refine tNo ?_)
 conv=>whnf
 ((refine Exists.intro (some ([(1000000,2)],[],[])) ?_);(conv=>whnf);refine zax (kf) (by kernel_rfl) (by kernel_rfl) (by kernel_rfl) ?_;conv=>whnf)
 (first | refine tYes ?_ | refine tNo ?_)
 conv=>whnf
 exact zat [] (by intro q hq;cases hq) (zah ⟨zag agD,(by (conv=>whnf);exact .inr (.inl ⟨rfl,rfl⟩)),zaj _ rfl,rfl⟩)
set_option maxHeartbeats 8000000 in
theorem zrs (r:Rft) (hf:Fit r) (m:Mg) (hM:RightM r m) (hL:0≤m.logTerm∧m.logTerm≤far) (hR:0≤m.round∧m.round≤far) (heq:m.term=r.hard.term)  : Ctr Tryz.prog 40 [.ag r.enc,.ag (mkY m 4 false).enc] (.tu [.ag (r).enc,.sl 16 ([]),iv 0]) []:=by
 have k1:Ctr Tryz.prog 57 [iv m.frm] (bv true) []:=by
  have:=zcc m.frm
  rwa [show zap m.frm 0 6=true from by unfold zap;rw [Bool.and_eq_true,decide_eq_true_eq,decide_eq_true_eq];have:=hM.frm;omega] at this
 have k3:=far_k hM.term
 have k4:=far_k hM.index
 have k5:=far_k hL
 have k6:=far_k hR
 have kt:=zao r hf.small
 have hne:=hM.ne
 have hto:=hM.to
 have hl0:=hf.log
 have hT0:=hf.term
 have k2:Ctr Tryz.prog 88 [iv 4,iv 1,iv 8] (bv true) []:=by
  have:=zay 4 1 8
  rwa [decide_eq_true (show 1≤(4:Int)∧(4:Int)≤8 from by decide)] at this
 have hfx:=hf
 have hxid:r.id=r.id:=rfl
 have hg1:¬ m.term > r.hard.term:=by omega
 have hx0:¬ m.term < r.hard.term:=by omega
 have hlx:=hfx.log
 have hTx:=hfx.term
 have hmx:r.hard.log.length≤maxLen:=zak (by omega)
 refine sBody Tryz.func40 ?_;conv=>whnf
 ((try (refine Exists.intro none ?_;conv=>whnf));(with_reducible refine zaa (k1) ?_);conv=>whnf)
 (first | refine tYes ?_ | refine tNo ?_)
 conv=>whnf
 (first | refine tYes ?_ | refine tNo ?_)
 conv=>whnf
 ((try (refine Exists.intro none ?_;conv=>whnf));(with_reducible refine zaa (k2) ?_);conv=>whnf)
 ((try (refine Exists.intro none ?_;conv=>whnf));(with_reducible refine zaa (k3) ?_);conv=>whnf)
 ((try (refine Exists.intro none ?_;conv=>whnf));(with_reducible refine zaa (k4) ?_);conv=>whnf)
 ((try (refine Exists.intro none ?_;conv=>whnf));(with_reducible refine zaa (k5) ?_);conv=>whnf)
 ((try (refine Exists.intro none ?_;conv=>whnf));(with_reducible refine zaa (k6) ?_);conv=>whnf)
 ((try (refine Exists.intro none ?_;conv=>whnf));(with_reducible refine zaa (kt) ?_);conv=>whnf)
 (refine tNew0 ?_;conv=>whnf)
 (first | refine tYes ?_ | refine tNo ?_)
 conv=>whnf
 (first | refine tYes ?_ | refine tNo ?_)
 conv=>whnf
 by_cases hro:r.role=2
 all_goals
  (first | refine tYes ?_ | refine tNo ?_)
  conv=>whnf
  exact zat [] (by intro q hq;cases hq) (zah ⟨zag agD,(by (conv=>whnf);exact .inr (.inl ⟨rfl,rfl⟩)),zaj _ rfl,rfl⟩)
set_option maxHeartbeats 8000000 in
theorem zpi (r:Rft) (hf:Fit r) (m:Mg) (hM:RightM r m) (hL:0≤m.logTerm∧m.logTerm≤far) (hR:0≤m.round∧m.round≤far) (hgt:r.hard.term < m.term)  : Ctr Tryz.prog 40 [.ag r.enc,.ag (mkY m 4 false).enc] (.tu [.ag ((fallR r m.term (-1))).enc,.sl 16 ([]),iv 0]) []:=by
 have k1:Ctr Tryz.prog 57 [iv m.frm] (bv true) []:=by
  have:=zcc m.frm
  rwa [show zap m.frm 0 6=true from by unfold zap;rw [Bool.and_eq_true,decide_eq_true_eq,decide_eq_true_eq];have:=hM.frm;omega] at this
 have k3:=far_k hM.term
 have k4:=far_k hM.index
 have k5:=far_k hL
 have k6:=far_k hR
 have kt:=zao r hf.small
 have hne:=hM.ne
 have hto:=hM.to
 have hl0:=hf.log
 have hT0:=hf.term
 have k2:Ctr Tryz.prog 88 [iv 4,iv 1,iv 8] (bv true) []:=by
  have:=zay 4 1 8
  rwa [decide_eq_true (show 1≤(4:Int)∧(4:Int)≤8 from by decide)] at this
 have kf:=zck r (zak (by omega)) m.term (-1)
 have hfx:=zb3 hf (t:=m.term) (by have:=hM.term;omega) (-1)
 have hxt:=zbq hgt (-1)
 have hxid:(fallR r m.term (-1)).id=r.id:=rfl
 have hg1:m.term > r.hard.term:=hgt
 have hx0:¬ m.term < (fallR r m.term (-1)).hard.term:=by omega
 have hlx:=hfx.log
 have hTx:=hfx.term
 have hmx:(fallR r m.term (-1)).hard.log.length≤maxLen:=zak (by omega)
 refine sBody Tryz.func40 ?_;conv=>whnf
 ((try (refine Exists.intro none ?_;conv=>whnf));(with_reducible refine zaa (k1) ?_);conv=>whnf)
 (first | refine tYes ?_ | refine tNo ?_)
 conv=>whnf
 (first | refine tYes ?_ | refine tNo ?_)
 conv=>whnf
 ((try (refine Exists.intro none ?_;conv=>whnf));(with_reducible refine zaa (k2) ?_);conv=>whnf)
 ((try (refine Exists.intro none ?_;conv=>whnf));(with_reducible refine zaa (k3) ?_);conv=>whnf)
 ((try (refine Exists.intro none ?_;conv=>whnf));(with_reducible refine zaa (k4) ?_);conv=>whnf)
 ((try (refine Exists.intro none ?_;conv=>whnf));(with_reducible refine zaa (k5) ?_);conv=>whnf)
 ((try (refine Exists.intro none ?_;conv=>whnf));(with_reducible refine zaa (k6) ?_);conv=>whnf)
 ((try (refine Exists.intro none ?_;conv=>whnf));(with_reducible refine zaa (kt) ?_);conv=>whnf)
 (refine tNew0 ?_;conv=>whnf)
 (first | refine tYes ?_ | refine tNo ?_)
 conv=>whnf
 ((refine Exists.intro (some ([(1000000,2)],[],[])) ?_);(conv=>whnf);refine zax (kf) (by kernel_rfl) (by kernel_rfl) (by kernel_rfl) ?_;conv=>whnf)
 (first | refine tYes ?_ | refine tNo ?_)
 conv=>whnf
 exact zat [] (by intro q hq;cases hq) (zah ⟨zag agD,(by (conv=>whnf);exact .inr (.inl ⟨rfl,rfl⟩)),zaj _ rfl,rfl⟩)
set_option maxHeartbeats 8000000 in
theorem zsc (r:Rft) (hf:Fit r) (m:Mg) (hM:RightM r m) (hL:0≤m.logTerm∧m.logTerm≤far) (hR:0≤m.round∧m.round≤far) (heq:m.term=r.hard.term):Ctr Tryz.prog 40 [.ag r.enc,.ag (mkY m 2 true).enc] (.tu [.ag (k2R r (mkY m 2 true)).enc,.sl 16 (k2O r (mkY m 2 true)),iv 0]) []:=by
 have k1:Ctr Tryz.prog 57 [iv m.frm] (bv true) []:=by
  have:=zcc m.frm
  rwa [show zap m.frm 0 6=true from by unfold zap;rw [Bool.and_eq_true,decide_eq_true_eq,decide_eq_true_eq];have:=hM.frm;omega] at this
 have k3:=far_k hM.term
 have k4:=far_k hM.index
 have k5:=far_k hL
 have k6:=far_k hR
 have kt:=zao r hf.small
 have hne:=hM.ne
 have hto:=hM.to
 have hl0:=hf.log
 have hT0:=hf.term
 have k2:Ctr Tryz.prog 88 [iv 2,iv 1,iv 8] (bv true) []:=by
  have:=zay 2 1 8
  rwa [decide_eq_true (show 1≤(2:Int)∧(2:Int)≤8 from by decide)] at this
 have hfr:=hM.frm
 have eu:IntKind.u64.wrap m.frm=m.frm:=zb4 (by omega) (by omega)
 have hx0:¬ m.term < r.hard.term:=by omega
 have hg1:¬ m.term > r.hard.term:=by omega
 have ew:IntKind.i64.wrap (r.hard.term+1)=r.hard.term+1:=zal (by omega) (by omega)
 have hmx:r.hard.log.length≤maxLen:=zak (by omega)
 have kw:=zjw (vtR r (mkY m 2 true)) hmx
 have kst:=zg8 (vtR r (mkY m 2 true)) { id:=hf.id,log:=hf.log,snap:=hf.snap,base:=hf.base,term:=hf.term,round:=hf.round,quiet:=hf.quiet,wait:=hf.wait,next:=hf.next,silent:=hf.silent,reads:=hf.reads }
 unfold k2R k2O
 refine sBody Tryz.func40 ?_;conv=>whnf
 ((try (refine Exists.intro none ?_;conv=>whnf));(with_reducible refine zaa (k1) ?_);conv=>whnf)
 (first | refine tYes ?_ | refine tNo ?_)
 conv=>whnf
 (first | refine tYes ?_ | refine tNo ?_)
 conv=>whnf
 ((try (refine Exists.intro none ?_;conv=>whnf));(with_reducible refine zaa (k2) ?_);conv=>whnf)
 ((try (refine Exists.intro none ?_;conv=>whnf));(with_reducible refine zaa (k3) ?_);conv=>whnf)
 ((try (refine Exists.intro none ?_;conv=>whnf));(with_reducible refine zaa (k4) ?_);conv=>whnf)
 ((try (refine Exists.intro none ?_;conv=>whnf));(with_reducible refine zaa (k5) ?_);conv=>whnf)
 ((try (refine Exists.intro none ?_;conv=>whnf));(with_reducible refine zaa (k6) ?_);conv=>whnf)
 ((try (refine Exists.intro none ?_;conv=>whnf));(with_reducible refine zaa (kt) ?_);conv=>whnf)
 (refine tNew0 ?_;conv=>whnf)
 (first | refine tYes ?_ | refine tNo ?_)
 conv=>whnf
 (first | refine tYes ?_ | refine tNo ?_)
 conv=>whnf
 by_cases hro:r.role=1
 ·rw [if_pos hro,if_pos hro]
  (first | refine tYes ?_ | refine tNo ?_)
  conv=>whnf
  rw [ew]
  conv=>whnf
  by_cases ht:m.term=r.hard.term+1
  ·rw [if_pos (show (mkY m 2 true).term=r.hard.term+1 from ht),if_pos (show (mkY m 2 true).term=r.hard.term+1 from ht)]
   (first | refine tYes ?_ | refine tNo ?_)
   conv=>whnf
   refine ⟨⟨by decide,by rw [eu];exact hfr.1⟩,?_⟩
   rw [eu]
   conv=>whnf
   cases hq:zbb (zac (vtR r (mkY m 2 true))) (vtR r (mkY m 2 true)).votes with
   | true =>
    rw [hq] at kw
    rw [if_pos rfl,if_pos rfl]
    ((try ((refine Exists.intro none ?_);(conv=>whnf)));refine zai (kw) (by kernel_rfl) ?_;conv=>whnf)
    ((refine Exists.intro (some ([(1000000,2)],[],[])) ?_);(conv=>whnf);refine zax (kst) (by kernel_rfl) (by kernel_rfl) (by kernel_rfl) ?_;conv=>whnf)
    exact zat [] (by intro q hq;cases hq) (zah ⟨zag agD,zaj _ rfl,zaj _ rfl,rfl⟩)
   | false =>
    rw [hq] at kw
    rw [if_neg (show ¬ false=true by decide),if_neg (show ¬ false=true by decide)]
    ((try ((refine Exists.intro none ?_);(conv=>whnf)));refine zai (kw) (by kernel_rfl) ?_;conv=>whnf)
    exact zat [] (by intro q hq;cases hq) (zah ⟨zag agD,(by (conv=>whnf);exact .inr (.inl ⟨rfl,rfl⟩)),zaj _ rfl,rfl⟩)
  ·rw [if_neg (show ¬ (mkY m 2 true).term=r.hard.term+1 from ht),if_neg (show ¬ (mkY m 2 true).term=r.hard.term+1 from ht)]
   (first | refine tYes ?_ | refine tNo ?_)
   conv=>whnf
   exact zat [] (by intro q hq;cases hq) (zah ⟨zag agD,(by (conv=>whnf);exact .inr (.inl ⟨rfl,rfl⟩)),zaj _ rfl,rfl⟩)
 ·rw [if_neg hro,if_neg hro]
  (first | refine tYes ?_ | refine tNo ?_)
  conv=>whnf
  exact zat [] (by intro q hq;cases hq) (zah ⟨zag agD,(by (conv=>whnf);exact .inr (.inl ⟨rfl,rfl⟩)),zaj _ rfl,rfl⟩)
set_option maxHeartbeats 8000000 in
theorem zta (r:Rft) (hf:Fit r) (m:Mg) (hM:RightM r m) (hL:0≤m.logTerm∧m.logTerm≤far) (hR:0≤m.round∧m.round≤far) (hgt:r.hard.term < m.term):Ctr Tryz.prog 40 [.ag r.enc,.ag (mkY m 2 true).enc] (.tu [.ag (k2R r (mkY m 2 true)).enc,.sl 16 (k2O r (mkY m 2 true)),iv 0]) []:=by
 have k1:Ctr Tryz.prog 57 [iv m.frm] (bv true) []:=by
  have:=zcc m.frm
  rwa [show zap m.frm 0 6=true from by unfold zap;rw [Bool.and_eq_true,decide_eq_true_eq,decide_eq_true_eq];have:=hM.frm;omega] at this
 have k3:=far_k hM.term
 have k4:=far_k hM.index
 have k5:=far_k hL
 have k6:=far_k hR
 have kt:=zao r hf.small
 have hne:=hM.ne
 have hto:=hM.to
 have hl0:=hf.log
 have hT0:=hf.term
 have k2:Ctr Tryz.prog 88 [iv 2,iv 1,iv 8] (bv true) []:=by
  have:=zay 2 1 8
  rwa [decide_eq_true (show 1≤(2:Int)∧(2:Int)≤8 from by decide)] at this
 have hfr:=hM.frm
 have eu:IntKind.u64.wrap m.frm=m.frm:=zb4 (by omega) (by omega)
 have hx0:¬ m.term < r.hard.term:=by omega
 have hg1:m.term > r.hard.term:=hgt
 have ew:IntKind.i64.wrap (r.hard.term+1)=r.hard.term+1:=zal (by omega) (by omega)
 have hmx:r.hard.log.length≤maxLen:=zak (by omega)
 have kw:=zjw (vtR r (mkY m 2 true)) hmx
 have kst:=zg8 (vtR r (mkY m 2 true)) { id:=hf.id,log:=hf.log,snap:=hf.snap,base:=hf.base,term:=hf.term,round:=hf.round,quiet:=hf.quiet,wait:=hf.wait,next:=hf.next,silent:=hf.silent,reads:=hf.reads }
 unfold k2R k2O
 refine sBody Tryz.func40 ?_;conv=>whnf
 ((try (refine Exists.intro none ?_;conv=>whnf));(with_reducible refine zaa (k1) ?_);conv=>whnf)
 (first | refine tYes ?_ | refine tNo ?_)
 conv=>whnf
 (first | refine tYes ?_ | refine tNo ?_)
 conv=>whnf
 ((try (refine Exists.intro none ?_;conv=>whnf));(with_reducible refine zaa (k2) ?_);conv=>whnf)
 ((try (refine Exists.intro none ?_;conv=>whnf));(with_reducible refine zaa (k3) ?_);conv=>whnf)
 ((try (refine Exists.intro none ?_;conv=>whnf));(with_reducible refine zaa (k4) ?_);conv=>whnf)
 ((try (refine Exists.intro none ?_;conv=>whnf));(with_reducible refine zaa (k5) ?_);conv=>whnf)
 ((try (refine Exists.intro none ?_;conv=>whnf));(with_reducible refine zaa (k6) ?_);conv=>whnf)
 ((try (refine Exists.intro none ?_;conv=>whnf));(with_reducible refine zaa (kt) ?_);conv=>whnf)
 (refine tNew0 ?_;conv=>whnf)
 (first | refine tYes ?_ | refine tNo ?_)
 conv=>whnf
 (first | refine tYes ?_ | refine tNo ?_)
 conv=>whnf
 by_cases hro:r.role=1
 ·rw [if_pos hro,if_pos hro]
  (first | refine tYes ?_ | refine tNo ?_)
  conv=>whnf
  rw [ew]
  conv=>whnf
  by_cases ht:m.term=r.hard.term+1
  ·rw [if_pos (show (mkY m 2 true).term=r.hard.term+1 from ht),if_pos (show (mkY m 2 true).term=r.hard.term+1 from ht)]
   (first | refine tYes ?_ | refine tNo ?_)
   conv=>whnf
   refine ⟨⟨by decide,by rw [eu];exact hfr.1⟩,?_⟩
   rw [eu]
   conv=>whnf
   cases hq:zbb (zac (vtR r (mkY m 2 true))) (vtR r (mkY m 2 true)).votes with
   | true =>
    rw [hq] at kw
    rw [if_pos rfl,if_pos rfl]
    ((try ((refine Exists.intro none ?_);(conv=>whnf)));refine zai (kw) (by kernel_rfl) ?_;conv=>whnf)
    ((refine Exists.intro (some ([(1000000,2)],[],[])) ?_);(conv=>whnf);refine zax (kst) (by kernel_rfl) (by kernel_rfl) (by kernel_rfl) ?_;conv=>whnf)
    exact zat [] (by intro q hq;cases hq) (zah ⟨zag agD,zaj _ rfl,zaj _ rfl,rfl⟩)
   | false =>
    rw [hq] at kw
    rw [if_neg (show ¬ false=true by decide),if_neg (show ¬ false=true by decide)]
    ((try ((refine Exists.intro none ?_);(conv=>whnf)));refine zai (kw) (by kernel_rfl) ?_;conv=>whnf)
    exact zat [] (by intro q hq;cases hq) (zah ⟨zag agD,(by (conv=>whnf);exact .inr (.inl ⟨rfl,rfl⟩)),zaj _ rfl,rfl⟩)
  ·rw [if_neg (show ¬ (mkY m 2 true).term=r.hard.term+1 from ht),if_neg (show ¬ (mkY m 2 true).term=r.hard.term+1 from ht)]
   (first | refine tYes ?_ | refine tNo ?_)
   conv=>whnf
   exact zat [] (by intro q hq;cases hq) (zah ⟨zag agD,(by (conv=>whnf);exact .inr (.inl ⟨rfl,rfl⟩)),zaj _ rfl,rfl⟩)
 ·rw [if_neg hro,if_neg hro]
  (first | refine tYes ?_ | refine tNo ?_)
  conv=>whnf
  exact zat [] (by intro q hq;cases hq) (zah ⟨zag agD,(by (conv=>whnf);exact .inr (.inl ⟨rfl,rfl⟩)),zaj _ rfl,rfl⟩)
set_option maxHeartbeats 8000000 in
theorem zwq (r:Rft) (hf:Fit r) (m:Mg) (hM:RightM r m) (hL:0≤m.logTerm∧m.logTerm≤far) (hR:0≤m.round∧m.round≤far) (heq:m.term=r.hard.term)  : Ctr Tryz.prog 40 [.ag r.enc,.ag (mkM m 3).enc] (.tu [.ag (k3R r (mkM m 3)).enc,.sl 16 (k3O r (mkM m 3)),iv 0]) []:=by
 have k1:Ctr Tryz.prog 57 [iv m.frm] (bv true) []:=by
  have:=zcc m.frm
  rwa [show zap m.frm 0 6=true from by unfold zap;rw [Bool.and_eq_true,decide_eq_true_eq,decide_eq_true_eq];have:=hM.frm;omega] at this
 have k3:=far_k hM.term
 have k4:=far_k hM.index
 have k5:=far_k hL
 have k6:=far_k hR
 have kt:=zao r hf.small
 have hne:=hM.ne
 have hto:=hM.to
 have hl0:=hf.log
 have hT0:=hf.term
 have k2:Ctr Tryz.prog 88 [iv 3,iv 1,iv 8] (bv true) []:=by
  have:=zay 3 1 8
  rwa [decide_eq_true (show 1≤(3:Int)∧(3:Int)≤8 from by decide)] at this
 have hfx:=hf
 have hxid:r.id=r.id:=rfl
 have hg1:¬ m.term > r.hard.term:=by omega
 have hx0:¬ m.term < r.hard.term:=by omega
 have hlx:=hfx.log
 have hTx:=hfx.term
 have hmx:r.hard.log.length≤maxLen:=zak (by omega)
 have kb:=zju r (mkM m 3) 4
 have kv:=zqe r hmx (mkM m 3)
 have kfv:=zck (vdR r (mkM m 3)) hmx r.hard.term (-1)
 have e1:(fallR (vdR r (mkM m 3)) r.hard.term (-1)).hard.term=r.hard.term:=by rw [zja (vdR r (mkM m 3)) (-1)]
 have e2:(fallR (vdR r (mkM m 3)) r.hard.term (-1)).id=r.id:=rfl
 unfold k3R k3O
 rw [e1,e2]
 generalize fallR (vdR r (mkM m 3)) r.hard.term (-1)=z at *
 refine sBody Tryz.func40 ?_;conv=>whnf
 ((try (refine Exists.intro none ?_;conv=>whnf));(with_reducible refine zaa (k1) ?_);conv=>whnf)
 (first | refine tYes ?_ | refine tNo ?_)
 conv=>whnf
 (first | refine tYes ?_ | refine tNo ?_)
 conv=>whnf
 ((try (refine Exists.intro none ?_;conv=>whnf));(with_reducible refine zaa (k2) ?_);conv=>whnf)
 ((try (refine Exists.intro none ?_;conv=>whnf));(with_reducible refine zaa (k3) ?_);conv=>whnf)
 ((try (refine Exists.intro none ?_;conv=>whnf));(with_reducible refine zaa (k4) ?_);conv=>whnf)
 ((try (refine Exists.intro none ?_;conv=>whnf));(with_reducible refine zaa (k5) ?_);conv=>whnf)
 ((try (refine Exists.intro none ?_;conv=>whnf));(with_reducible refine zaa (k6) ?_);conv=>whnf)
 ((try (refine Exists.intro none ?_;conv=>whnf));(with_reducible refine zaa (kt) ?_);conv=>whnf)
 (refine tNew0 ?_;conv=>whnf)
 (first | refine tYes ?_ | refine tNo ?_)
 conv=>whnf
 (first | refine tYes ?_ | refine tNo ?_)
 conv=>whnf
 ((try (refine Exists.intro none ?_;conv=>whnf));(with_reducible refine zaa (kb) ?_);conv=>whnf)
 cases hq:voted r (mkM m 3) with
 | true =>
  rw [hq] at kv
  rw [if_pos rfl,if_pos rfl]
  ((try ((refine Exists.intro none ?_);(conv=>whnf)));refine zai (kv) (by kernel_rfl) ?_;conv=>whnf)
  ((refine Exists.intro (some ([(1000000,2)],[],[])) ?_);(conv=>whnf);refine zax (kfv) (by kernel_rfl) (by kernel_rfl) (by kernel_rfl) ?_;conv=>whnf)
  exact zat [] (by intro q hq;cases hq) (zah ⟨zag agD,(by (conv=>whnf);exact .inl (by kernel_rfl)),zaj _ rfl,rfl⟩)
 | false =>
  rw [hq] at kv
  rw [if_neg (show ¬ false=true by decide),if_neg (show ¬ false=true by decide)]
  ((try ((refine Exists.intro none ?_);(conv=>whnf)));refine zai (kv) (by kernel_rfl) ?_;conv=>whnf)
  exact zat [] (by intro q hq;cases hq) (zah ⟨zag agD,(by (conv=>whnf);exact .inl (by kernel_rfl)),zaj _ rfl,rfl⟩)
set_option maxHeartbeats 8000000 in
theorem zs1 (r:Rft) (hf:Fit r) (m:Mg) (hM:RightM r m) (hL:0≤m.logTerm∧m.logTerm≤far) (hR:0≤m.round∧m.round≤far) (hgt:r.hard.term < m.term)  : Ctr Tryz.prog 40 [.ag r.enc,.ag (mkM m 3).enc] (.tu [.ag (k3R (fallR r m.term (-1)) (mkM m 3)).enc,.sl 16 (k3O (fallR r m.term (-1)) (mkM m 3)),iv 0]) []:=by
 have k1:Ctr Tryz.prog 57 [iv m.frm] (bv true) []:=by
  have:=zcc m.frm
  rwa [show zap m.frm 0 6=true from by unfold zap;rw [Bool.and_eq_true,decide_eq_true_eq,decide_eq_true_eq];have:=hM.frm;omega] at this
 have k3:=far_k hM.term
 have k4:=far_k hM.index
 have k5:=far_k hL
 have k6:=far_k hR
 have kt:=zao r hf.small
 have hne:=hM.ne
 have hto:=hM.to
 have hl0:=hf.log
 have hT0:=hf.term
 have k2:Ctr Tryz.prog 88 [iv 3,iv 1,iv 8] (bv true) []:=by
  have:=zay 3 1 8
  rwa [decide_eq_true (show 1≤(3:Int)∧(3:Int)≤8 from by decide)] at this
 have kf:=zck r (zak (by omega)) m.term (-1)
 have hfx:=zb3 hf (t:=m.term) (by have:=hM.term;omega) (-1)
 have hxt:=zbq hgt (-1)
 have hxid:(fallR r m.term (-1)).id=r.id:=rfl
 generalize fallR r m.term (-1)=x at *
 have hg1:m.term > r.hard.term:=hgt
 have hx0:¬ m.term < x.hard.term:=by omega
 have hlx:=hfx.log
 have hTx:=hfx.term
 have hmx:x.hard.log.length≤maxLen:=zak (by omega)
 have kb:=zju x (mkM m 3) 4
 have kv:=zqe x hmx (mkM m 3)
 have kfv:=zck (vdR x (mkM m 3)) hmx x.hard.term (-1)
 have e1:(fallR (vdR x (mkM m 3)) x.hard.term (-1)).hard.term=x.hard.term:=by rw [zja (vdR x (mkM m 3)) (-1)]
 have e2:(fallR (vdR x (mkM m 3)) x.hard.term (-1)).id=x.id:=rfl
 unfold k3R k3O
 rw [e1,e2]
 generalize fallR (vdR x (mkM m 3)) x.hard.term (-1)=z at *
 refine sBody Tryz.func40 ?_;conv=>whnf
 ((try (refine Exists.intro none ?_;conv=>whnf));(with_reducible refine zaa (k1) ?_);conv=>whnf)
 (first | refine tYes ?_ | refine tNo ?_)
 conv=>whnf
 (first | refine tYes ?_ | refine tNo ?_)
 conv=>whnf
 ((try (refine Exists.intro none ?_;conv=>whnf));(with_reducible refine zaa (k2) ?_);conv=>whnf)
 ((try (refine Exists.intro none ?_;conv=>whnf));(with_reducible refine zaa (k3) ?_);conv=>whnf)
 ((try (refine Exists.intro none ?_;conv=>whnf));(with_reducible refine zaa (k4) ?_);conv=>whnf)
 ((try (refine Exists.intro none ?_;conv=>whnf));(with_reducible refine zaa (k5) ?_);conv=>whnf)
 ((try (refine Exists.intro none ?_;conv=>whnf));(with_reducible refine zaa (k6) ?_);conv=>whnf)
 ((try (refine Exists.intro none ?_;conv=>whnf));(with_reducible refine zaa (kt) ?_);conv=>whnf)
 (refine tNew0 ?_;conv=>whnf)
 (first | refine tYes ?_ | refine tNo ?_)
 conv=>whnf
 ((refine Exists.intro (some ([(1000000,2)],[],[])) ?_);(conv=>whnf);refine zax (kf) (by kernel_rfl) (by kernel_rfl) (by kernel_rfl) ?_;conv=>whnf)
 (first | refine tYes ?_ | refine tNo ?_)
 conv=>whnf
 ((try (refine Exists.intro none ?_;conv=>whnf));(with_reducible refine zaa (kb) ?_);conv=>whnf)
 cases hq:voted x (mkM m 3) with
 | true =>
  rw [hq] at kv
  rw [if_pos rfl,if_pos rfl]
  ((try ((refine Exists.intro none ?_);(conv=>whnf)));refine zai (kv) (by kernel_rfl) ?_;conv=>whnf)
  ((refine Exists.intro (some ([(1000000,2)],[],[])) ?_);(conv=>whnf);refine zax (kfv) (by kernel_rfl) (by kernel_rfl) (by kernel_rfl) ?_;conv=>whnf)
  exact zat [] (by intro q hq;cases hq) (zah ⟨zag agD,(by (conv=>whnf);exact .inl (by kernel_rfl)),zaj _ rfl,rfl⟩)
 | false =>
  rw [hq] at kv
  rw [if_neg (show ¬ false=true by decide),if_neg (show ¬ false=true by decide)]
  ((try ((refine Exists.intro none ?_);(conv=>whnf)));refine zai (kv) (by kernel_rfl) ?_;conv=>whnf)
  exact zat [] (by intro q hq;cases hq) (zah ⟨zag agD,(by (conv=>whnf);exact .inl (by kernel_rfl)),zaj _ rfl,rfl⟩)
set_option maxHeartbeats 8000000 in
theorem ztf (r:Rft) (hf:Fit r) (m:Mg) (hM:RightM r m) (hL:0≤m.logTerm∧m.logTerm≤far) (hR:0≤m.round∧m.round≤far) (heq:m.term=r.hard.term)  : Ctr Tryz.prog 40 [.ag r.enc,.ag (mkY m 4 true).enc] (.tu [.ag (k4R r (mkY m 4 true)).enc,.sl 16 (k4O r (mkY m 4 true)),iv 0]) []:=by
 have k1:Ctr Tryz.prog 57 [iv m.frm] (bv true) []:=by
  have:=zcc m.frm
  rwa [show zap m.frm 0 6=true from by unfold zap;rw [Bool.and_eq_true,decide_eq_true_eq,decide_eq_true_eq];have:=hM.frm;omega] at this
 have k3:=far_k hM.term
 have k4:=far_k hM.index
 have k5:=far_k hL
 have k6:=far_k hR
 have kt:=zao r hf.small
 have hne:=hM.ne
 have hto:=hM.to
 have hl0:=hf.log
 have hT0:=hf.term
 have k2:Ctr Tryz.prog 88 [iv 4,iv 1,iv 8] (bv true) []:=by
  have:=zay 4 1 8
  rwa [decide_eq_true (show 1≤(4:Int)∧(4:Int)≤8 from by decide)] at this
 have hfx:=hf
 have hxid:r.id=r.id:=rfl
 have hg1:¬ m.term > r.hard.term:=by omega
 have hx0:¬ m.term < r.hard.term:=by omega
 have hlx:=hfx.log
 have hTx:=hfx.term
 have hmx:r.hard.log.length≤maxLen:=zak (by omega)
 have hfr:=hM.frm
 have eu:IntKind.u64.wrap m.frm=m.frm:=zb4 (by omega) (by omega)
 have kw:=zjw (vtR r (mkY m 4 true)) hmx
 have kl:=zwl (vtR r (mkY m 4 true)) hfx.id hfx.log hfx.snap hfx.base hfx.round
 unfold k4R k4O
 refine sBody Tryz.func40 ?_;conv=>whnf
 ((try (refine Exists.intro none ?_;conv=>whnf));(with_reducible refine zaa (k1) ?_);conv=>whnf)
 (first | refine tYes ?_ | refine tNo ?_)
 conv=>whnf
 (first | refine tYes ?_ | refine tNo ?_)
 conv=>whnf
 ((try (refine Exists.intro none ?_;conv=>whnf));(with_reducible refine zaa (k2) ?_);conv=>whnf)
 ((try (refine Exists.intro none ?_;conv=>whnf));(with_reducible refine zaa (k3) ?_);conv=>whnf)
 ((try (refine Exists.intro none ?_;conv=>whnf));(with_reducible refine zaa (k4) ?_);conv=>whnf)
 ((try (refine Exists.intro none ?_;conv=>whnf));(with_reducible refine zaa (k5) ?_);conv=>whnf)
 ((try (refine Exists.intro none ?_;conv=>whnf));(with_reducible refine zaa (k6) ?_);conv=>whnf)
 ((try (refine Exists.intro none ?_;conv=>whnf));(with_reducible refine zaa (kt) ?_);conv=>whnf)
 (refine tNew0 ?_;conv=>whnf)
 (first | refine tYes ?_ | refine tNo ?_)
 conv=>whnf
 (first | refine tYes ?_ | refine tNo ?_)
 conv=>whnf
 by_cases hro:r.role=2
 ·rw [if_pos hro,if_pos hro]
  (first | refine tYes ?_ | refine tNo ?_)
  conv=>whnf
  refine ⟨⟨by decide,by rw [eu];exact hfr.1⟩,?_⟩
  rw [eu]
  conv=>whnf
  cases hq:zbb (zac (vtR r (mkY m 4 true))) (vtR r (mkY m 4 true)).votes with
  | true =>
   rw [hq] at kw
   rw [if_pos rfl,if_pos rfl]
   ((try ((refine Exists.intro none ?_);(conv=>whnf)));refine zai (kw) (by kernel_rfl) ?_;conv=>whnf)
   ((refine Exists.intro (some ([(1000000,2)],[],[])) ?_);(conv=>whnf);refine zax (kl) (by kernel_rfl) (by kernel_rfl) (by kernel_rfl) ?_;conv=>whnf)
   exact zat [] (by intro q hq;cases hq) (zah ⟨zag agD,zaj _ rfl,zaj _ rfl,rfl⟩)
  | false =>
   rw [hq] at kw
   rw [if_neg (show ¬ false=true by decide),if_neg (show ¬ false=true by decide)]
   ((try ((refine Exists.intro none ?_);(conv=>whnf)));refine zai (kw) (by kernel_rfl) ?_;conv=>whnf)
   exact zat [] (by intro q hq;cases hq) (zah ⟨zag agD,(by (conv=>whnf);exact .inr (.inl ⟨rfl,rfl⟩)),zaj _ rfl,rfl⟩)
 ·rw [if_neg hro,if_neg hro]
  (first | refine tYes ?_ | refine tNo ?_)
  conv=>whnf
  exact zat [] (by intro q hq;cases hq) (zah ⟨zag agD,(by (conv=>whnf);exact .inr (.inl ⟨rfl,rfl⟩)),zaj _ rfl,rfl⟩)
set_option maxHeartbeats 8000000 in
theorem zpo (r:Rft) (hf:Fit r) (m:Mg) (hM:RightM r m) (hL:0≤m.logTerm∧m.logTerm≤far) (hR:0≤m.round∧m.round≤far) (hgt:r.hard.term < m.term)  : Ctr Tryz.prog 40 [.ag r.enc,.ag (mkY m 4 true).enc] (.tu [.ag (k4R (fallR r m.term (-1)) (mkY m 4 true)).enc,.sl 16 (k4O (fallR r m.term (-1)) (mkY m 4 true)),iv 0]) []:=by
 have k1:Ctr Tryz.prog 57 [iv m.frm] (bv true) []:=by
  have:=zcc m.frm
  rwa [show zap m.frm 0 6=true from by unfold zap;rw [Bool.and_eq_true,decide_eq_true_eq,decide_eq_true_eq];have:=hM.frm;omega] at this
 have k3:=far_k hM.term
 have k4:=far_k hM.index
 have k5:=far_k hL
 have k6:=far_k hR
 have kt:=zao r hf.small
 have hne:=hM.ne
 have hto:=hM.to
 have hl0:=hf.log
 have hT0:=hf.term
 have k2:Ctr Tryz.prog 88 [iv 4,iv 1,iv 8] (bv true) []:=by
  have:=zay 4 1 8
  rwa [decide_eq_true (show 1≤(4:Int)∧(4:Int)≤8 from by decide)] at this
 have kf:=zck r (zak (by omega)) m.term (-1)
 have hfx:=zb3 hf (t:=m.term) (by have:=hM.term;omega) (-1)
 have hxt:=zbq hgt (-1)
 have hxid:(fallR r m.term (-1)).id=r.id:=rfl
 have hg1:m.term > r.hard.term:=hgt
 have hx0:¬ m.term < (fallR r m.term (-1)).hard.term:=by omega
 have hlx:=hfx.log
 have hTx:=hfx.term
 have hmx:(fallR r m.term (-1)).hard.log.length≤maxLen:=zak (by omega)
 unfold k4R k4O
 have hro:¬ (fallR r m.term (-1)).role=2:=by show ¬ (0:Int)=2;decide
 rw [if_neg hro,if_neg hro]
 refine sBody Tryz.func40 ?_;conv=>whnf
 ((try (refine Exists.intro none ?_;conv=>whnf));(with_reducible refine zaa (k1) ?_);conv=>whnf)
 (first | refine tYes ?_ | refine tNo ?_)
 conv=>whnf
 (first | refine tYes ?_ | refine tNo ?_)
 conv=>whnf
 ((try (refine Exists.intro none ?_;conv=>whnf));(with_reducible refine zaa (k2) ?_);conv=>whnf)
 ((try (refine Exists.intro none ?_;conv=>whnf));(with_reducible refine zaa (k3) ?_);conv=>whnf)
 ((try (refine Exists.intro none ?_;conv=>whnf));(with_reducible refine zaa (k4) ?_);conv=>whnf)
 ((try (refine Exists.intro none ?_;conv=>whnf));(with_reducible refine zaa (k5) ?_);conv=>whnf)
 ((try (refine Exists.intro none ?_;conv=>whnf));(with_reducible refine zaa (k6) ?_);conv=>whnf)
 ((try (refine Exists.intro none ?_;conv=>whnf));(with_reducible refine zaa (kt) ?_);conv=>whnf)
 (refine tNew0 ?_;conv=>whnf)
 (first | refine tYes ?_ | refine tNo ?_)
 conv=>whnf
 ((refine Exists.intro (some ([(1000000,2)],[],[])) ?_);(conv=>whnf);refine zax (kf) (by kernel_rfl) (by kernel_rfl) (by kernel_rfl) ?_;conv=>whnf)
 (first | refine tYes ?_ | refine tNo ?_)
 conv=>whnf
 exact zat [] (by intro q hq;cases hq) (zah ⟨zag agD,(by (conv=>whnf);exact .inr (.inl ⟨rfl,rfl⟩)),zaj _ rfl,rfl⟩)
set_option maxHeartbeats 8000000 in
theorem zup (r:Rft) (hf:Fit r) (m:Mg) (hM:RightM r m) (hL:0≤m.logTerm∧m.logTerm≤far) (hR:0≤m.round∧m.round≤far) (heq:m.term=r.hard.term) (hen:m.entries.length≤4294967) (hgl:growE r.hard r.commit (mkM m 5)=0→(growO r.hard r.commit (mkM m 5)).h.log.length≤maxLen) (he:appE r (mkM m 5)=0):Ctr Tryz.prog 40 [.ag r.enc,.ag (mkM m 5).enc] (.tu [.ag (appR r (mkM m 5)).enc,.sl 16 (appO r (mkM m 5)),iv 0]) []:=by
 have k1:Ctr Tryz.prog 57 [iv m.frm] (bv true) []:=by
  have:=zcc m.frm
  rwa [show zap m.frm 0 6=true from by unfold zap;rw [Bool.and_eq_true,decide_eq_true_eq,decide_eq_true_eq];have:=hM.frm;omega] at this
 have k3:=far_k hM.term
 have k4:=far_k hM.index
 have k5:=far_k hL
 have k6:=far_k hR
 have kt:=zao r hf.small
 have hne:=hM.ne
 have hto:=hM.to
 have hl0:=hf.log
 have hT0:=hf.term
 have k2:Ctr Tryz.prog 88 [iv 5,iv 1,iv 8] (bv true) []:=by
  have:=zay 5 1 8
  rwa [decide_eq_true (show 1≤(5:Int)∧(5:Int)≤8 from by decide)] at this
 have hfx:=hf
 have hxid:r.id=r.id:=rfl
 have hg1:¬ m.term > r.hard.term:=by omega
 have hx0:¬ m.term < r.hard.term:=by omega
 have hlx:=hfx.log
 have hTx:=hfx.term
 have hmx:r.hard.log.length≤maxLen:=zak (by omega)
 unfold appE at he
 unfold appR appO
 refine sBody Tryz.func40 ?_;conv=>whnf
 ((try (refine Exists.intro none ?_;conv=>whnf));(with_reducible refine zaa (k1) ?_);conv=>whnf)
 (first | refine tYes ?_ | refine tNo ?_)
 conv=>whnf
 (first | refine tYes ?_ | refine tNo ?_)
 conv=>whnf
 ((try (refine Exists.intro none ?_;conv=>whnf));(with_reducible refine zaa (k2) ?_);conv=>whnf)
 ((try (refine Exists.intro none ?_;conv=>whnf));(with_reducible refine zaa (k3) ?_);conv=>whnf)
 ((try (refine Exists.intro none ?_;conv=>whnf));(with_reducible refine zaa (k4) ?_);conv=>whnf)
 ((try (refine Exists.intro none ?_;conv=>whnf));(with_reducible refine zaa (k5) ?_);conv=>whnf)
 ((try (refine Exists.intro none ?_;conv=>whnf));(with_reducible refine zaa (k6) ?_);conv=>whnf)
 ((try (refine Exists.intro none ?_;conv=>whnf));(with_reducible refine zaa (kt) ?_);conv=>whnf)
 (refine tNew0 ?_;conv=>whnf)
 (first | refine tYes ?_ | refine tNo ?_)
 conv=>whnf
 (first | refine tYes ?_ | refine tNo ?_)
 conv=>whnf
 by_cases hro:r.role=3
 ·rw [if_pos hro,if_pos hro]
  (first | refine tYes ?_ | refine tNo ?_)
  conv=>whnf
  exact zat [] (by intro q hq;cases hq) (zah ⟨zag agD,(by (conv=>whnf);exact .inr (.inl ⟨rfl,rfl⟩)),zaj _ rfl,rfl⟩)
 ·rw [if_neg hro] at he
  rw [if_neg hro,if_neg hro,if_pos he,if_pos he]
  have kfo:=zkd r hfx (mkM m 5) rfl hen hgl he
  (first | refine tYes ?_ | refine tNo ?_)
  conv=>whnf
  ((refine Exists.intro (some ([(1000000,2)],[],[])) ?_);(conv=>whnf);refine zax (kfo) (by kernel_rfl) (by kernel_rfl) (by kernel_rfl) ?_;conv=>whnf)
  exact zat [] (by intro q hq;cases hq) (zah ⟨zag agD,(by (conv=>whnf);exact .inl (by kernel_rfl)),zaj _ rfl,rfl⟩)
set_option maxHeartbeats 8000000 in
theorem zs3 (r:Rft) (hf:Fit r) (m:Mg) (hM:RightM r m) (hL:0≤m.logTerm∧m.logTerm≤far) (hR:0≤m.round∧m.round≤far) (hgt:r.hard.term < m.term) (hen:m.entries.length≤4294967) (hgl:growE (fallR r m.term (-1)).hard (fallR r m.term (-1)).commit (mkM m 5)=0→(growO (fallR r m.term (-1)).hard (fallR r m.term (-1)).commit (mkM m 5)).h.log.length≤maxLen) (he:appE (fallR r m.term (-1)) (mkM m 5)=0):Ctr Tryz.prog 40 [.ag r.enc,.ag (mkM m 5).enc] (.tu [.ag (appR (fallR r m.term (-1)) (mkM m 5)).enc,.sl 16 (appO (fallR r m.term (-1)) (mkM m 5)),iv 0]) []:=by
 have k1:Ctr Tryz.prog 57 [iv m.frm] (bv true) []:=by
  have:=zcc m.frm
  rwa [show zap m.frm 0 6=true from by unfold zap;rw [Bool.and_eq_true,decide_eq_true_eq,decide_eq_true_eq];have:=hM.frm;omega] at this
 have k3:=far_k hM.term
 have k4:=far_k hM.index
 have k5:=far_k hL
 have k6:=far_k hR
 have kt:=zao r hf.small
 have hne:=hM.ne
 have hto:=hM.to
 have hl0:=hf.log
 have hT0:=hf.term
 have k2:Ctr Tryz.prog 88 [iv 5,iv 1,iv 8] (bv true) []:=by
  have:=zay 5 1 8
  rwa [decide_eq_true (show 1≤(5:Int)∧(5:Int)≤8 from by decide)] at this
 have kf:=zck r (zak (by omega)) m.term (-1)
 have hfx:=zb3 hf (t:=m.term) (by have:=hM.term;omega) (-1)
 have hxt:=zbq hgt (-1)
 have hxid:(fallR r m.term (-1)).id=r.id:=rfl
 generalize fallR r m.term (-1)=x at *
 have hg1:m.term > r.hard.term:=hgt
 have hx0:¬ m.term < x.hard.term:=by omega
 have hlx:=hfx.log
 have hTx:=hfx.term
 have hmx:x.hard.log.length≤maxLen:=zak (by omega)
 unfold appE at he
 unfold appR appO
 refine sBody Tryz.func40 ?_;conv=>whnf
 ((try (refine Exists.intro none ?_;conv=>whnf));(with_reducible refine zaa (k1) ?_);conv=>whnf)
 (first | refine tYes ?_ | refine tNo ?_)
 conv=>whnf
 (first | refine tYes ?_ | refine tNo ?_)
 conv=>whnf
 ((try (refine Exists.intro none ?_;conv=>whnf));(with_reducible refine zaa (k2) ?_);conv=>whnf)
 ((try (refine Exists.intro none ?_;conv=>whnf));(with_reducible refine zaa (k3) ?_);conv=>whnf)
 ((try (refine Exists.intro none ?_;conv=>whnf));(with_reducible refine zaa (k4) ?_);conv=>whnf)
 ((try (refine Exists.intro none ?_;conv=>whnf));(with_reducible refine zaa (k5) ?_);conv=>whnf)
 ((try (refine Exists.intro none ?_;conv=>whnf));(with_reducible refine zaa (k6) ?_);conv=>whnf)
 ((try (refine Exists.intro none ?_;conv=>whnf));(with_reducible refine zaa (kt) ?_);conv=>whnf)
 (refine tNew0 ?_;conv=>whnf)
 (first | refine tYes ?_ | refine tNo ?_)
 conv=>whnf
 ((refine Exists.intro (some ([(1000000,2)],[],[])) ?_);(conv=>whnf);refine zax (kf) (by kernel_rfl) (by kernel_rfl) (by kernel_rfl) ?_;conv=>whnf)
 (first | refine tYes ?_ | refine tNo ?_)
 conv=>whnf
 by_cases hro:x.role=3
 ·rw [if_pos hro,if_pos hro]
  (first | refine tYes ?_ | refine tNo ?_)
  conv=>whnf
  exact zat [] (by intro q hq;cases hq) (zah ⟨zag agD,(by (conv=>whnf);exact .inr (.inl ⟨rfl,rfl⟩)),zaj _ rfl,rfl⟩)
 ·rw [if_neg hro] at he
  rw [if_neg hro,if_neg hro,if_pos he,if_pos he]
  have kfo:=zkd x hfx (mkM m 5) rfl hen hgl he
  (first | refine tYes ?_ | refine tNo ?_)
  conv=>whnf
  ((refine Exists.intro (some ([(1000000,2)],[],[])) ?_);(conv=>whnf);refine zax (kfo) (by kernel_rfl) (by kernel_rfl) (by kernel_rfl) ?_;conv=>whnf)
  exact zat [] (by intro q hq;cases hq) (zah ⟨zag agD,(by (conv=>whnf);exact .inl (by kernel_rfl)),zaj _ rfl,rfl⟩)
set_option maxHeartbeats 8000000 in
theorem ztj (r:Rft) (hf:Fit r) (m:Mg) (hM:RightM r m) (hL:0≤m.logTerm∧m.logTerm≤far) (hR:0≤m.round∧m.round≤far) (heq:m.term=r.hard.term) (hen:m.entries.length≤4294967) (hgl:growE r.hard r.commit (mkM m 5)=0→(growO r.hard r.commit (mkM m 5)).h.log.length≤maxLen) (he:¬ appE r (mkM m 5)=0):Ctr Tryz.prog 40 [.ag r.enc,.ag (mkM m 5).enc] (.tu [.ag rzv,.nl,iv (appE r (mkM m 5))]) []:=by
 have k1:Ctr Tryz.prog 57 [iv m.frm] (bv true) []:=by
  have:=zcc m.frm
  rwa [show zap m.frm 0 6=true from by unfold zap;rw [Bool.and_eq_true,decide_eq_true_eq,decide_eq_true_eq];have:=hM.frm;omega] at this
 have k3:=far_k hM.term
 have k4:=far_k hM.index
 have k5:=far_k hL
 have k6:=far_k hR
 have kt:=zao r hf.small
 have hne:=hM.ne
 have hto:=hM.to
 have hl0:=hf.log
 have hT0:=hf.term
 have k2:Ctr Tryz.prog 88 [iv 5,iv 1,iv 8] (bv true) []:=by
  have:=zay 5 1 8
  rwa [decide_eq_true (show 1≤(5:Int)∧(5:Int)≤8 from by decide)] at this
 have hfx:=hf
 have hxid:r.id=r.id:=rfl
 have hg1:¬ m.term > r.hard.term:=by omega
 have hx0:¬ m.term < r.hard.term:=by omega
 have hlx:=hfx.log
 have hTx:=hfx.term
 have hmx:r.hard.log.length≤maxLen:=zak (by omega)
 unfold appE at *
 refine sBody Tryz.func40 ?_;conv=>whnf
 ((try (refine Exists.intro none ?_;conv=>whnf));(with_reducible refine zaa (k1) ?_);conv=>whnf)
 (first | refine tYes ?_ | refine tNo ?_)
 conv=>whnf
 (first | refine tYes ?_ | refine tNo ?_)
 conv=>whnf
 ((try (refine Exists.intro none ?_;conv=>whnf));(with_reducible refine zaa (k2) ?_);conv=>whnf)
 ((try (refine Exists.intro none ?_;conv=>whnf));(with_reducible refine zaa (k3) ?_);conv=>whnf)
 ((try (refine Exists.intro none ?_;conv=>whnf));(with_reducible refine zaa (k4) ?_);conv=>whnf)
 ((try (refine Exists.intro none ?_;conv=>whnf));(with_reducible refine zaa (k5) ?_);conv=>whnf)
 ((try (refine Exists.intro none ?_;conv=>whnf));(with_reducible refine zaa (k6) ?_);conv=>whnf)
 ((try (refine Exists.intro none ?_;conv=>whnf));(with_reducible refine zaa (kt) ?_);conv=>whnf)
 (refine tNew0 ?_;conv=>whnf)
 (first | refine tYes ?_ | refine tNo ?_)
 conv=>whnf
 (first | refine tYes ?_ | refine tNo ?_)
 conv=>whnf
 by_cases hro:r.role=3
 ·rw [if_pos hro] at he
  exact absurd rfl he
 ·rw [if_neg hro] at he ⊢
  have kfo:=zj9 r hfx (mkM m 5) rfl hen he
  (first | refine tYes ?_ | refine tNo ?_)
  conv=>whnf
  ((refine Exists.intro (some ([(1000000,2)],[],[])) ?_);(conv=>whnf);refine zax (kfo) (by kernel_rfl) (by kernel_rfl) (by kernel_rfl) ?_;conv=>whnf)
  (refine tSp (fun h=>?_) (fun h=>?_)<;>conv=>whnf)
  ·exact zat [] (by intro q hq;cases hq) (zah ⟨zag agD,zaj _ rfl,zaj _ rfl,rfl⟩)
  ·exact absurd (by first | exact h | (simpa using h)) he
set_option maxHeartbeats 8000000 in
theorem zpp (r:Rft) (hf:Fit r) (m:Mg) (hM:RightM r m) (hL:0≤m.logTerm∧m.logTerm≤far) (hR:0≤m.round∧m.round≤far) (hgt:r.hard.term < m.term) (hen:m.entries.length≤4294967) (hgl:growE (fallR r m.term (-1)).hard (fallR r m.term (-1)).commit (mkM m 5)=0→(growO (fallR r m.term (-1)).hard (fallR r m.term (-1)).commit (mkM m 5)).h.log.length≤maxLen) (he:¬ appE (fallR r m.term (-1)) (mkM m 5)=0):Ctr Tryz.prog 40 [.ag r.enc,.ag (mkM m 5).enc] (.tu [.ag rzv,.nl,iv (appE (fallR r m.term (-1)) (mkM m 5))]) []:=by
 have k1:Ctr Tryz.prog 57 [iv m.frm] (bv true) []:=by
  have:=zcc m.frm
  rwa [show zap m.frm 0 6=true from by unfold zap;rw [Bool.and_eq_true,decide_eq_true_eq,decide_eq_true_eq];have:=hM.frm;omega] at this
 have k3:=far_k hM.term
 have k4:=far_k hM.index
 have k5:=far_k hL
 have k6:=far_k hR
 have kt:=zao r hf.small
 have hne:=hM.ne
 have hto:=hM.to
 have hl0:=hf.log
 have hT0:=hf.term
 have k2:Ctr Tryz.prog 88 [iv 5,iv 1,iv 8] (bv true) []:=by
  have:=zay 5 1 8
  rwa [decide_eq_true (show 1≤(5:Int)∧(5:Int)≤8 from by decide)] at this
 have kf:=zck r (zak (by omega)) m.term (-1)
 have hfx:=zb3 hf (t:=m.term) (by have:=hM.term;omega) (-1)
 have hxt:=zbq hgt (-1)
 have hxid:(fallR r m.term (-1)).id=r.id:=rfl
 generalize fallR r m.term (-1)=x at *
 have hg1:m.term > r.hard.term:=hgt
 have hx0:¬ m.term < x.hard.term:=by omega
 have hlx:=hfx.log
 have hTx:=hfx.term
 have hmx:x.hard.log.length≤maxLen:=zak (by omega)
 unfold appE at *
 refine sBody Tryz.func40 ?_;conv=>whnf
 ((try (refine Exists.intro none ?_;conv=>whnf));(with_reducible refine zaa (k1) ?_);conv=>whnf)
 (first | refine tYes ?_ | refine tNo ?_)
 conv=>whnf
 (first | refine tYes ?_ | refine tNo ?_)
 conv=>whnf
 ((try (refine Exists.intro none ?_;conv=>whnf));(with_reducible refine zaa (k2) ?_);conv=>whnf)
 ((try (refine Exists.intro none ?_;conv=>whnf));(with_reducible refine zaa (k3) ?_);conv=>whnf)
 ((try (refine Exists.intro none ?_;conv=>whnf));(with_reducible refine zaa (k4) ?_);conv=>whnf)
 ((try (refine Exists.intro none ?_;conv=>whnf));(with_reducible refine zaa (k5) ?_);conv=>whnf)
 ((try (refine Exists.intro none ?_;conv=>whnf));(with_reducible refine zaa (k6) ?_);conv=>whnf)
 ((try (refine Exists.intro none ?_;conv=>whnf));(with_reducible refine zaa (kt) ?_);conv=>whnf)
 (refine tNew0 ?_;conv=>whnf)
 (first | refine tYes ?_ | refine tNo ?_)
 conv=>whnf
 ((refine Exists.intro (some ([(1000000,2)],[],[])) ?_);(conv=>whnf);refine zax (kf) (by kernel_rfl) (by kernel_rfl) (by kernel_rfl) ?_;conv=>whnf)
 (first | refine tYes ?_ | refine tNo ?_)
 conv=>whnf
 by_cases hro:x.role=3
 ·rw [if_pos hro] at he
  exact absurd rfl he
 ·rw [if_neg hro] at he ⊢
  have kfo:=zj9 x hfx (mkM m 5) rfl hen he
  (first | refine tYes ?_ | refine tNo ?_)
  conv=>whnf
  ((refine Exists.intro (some ([(1000000,2)],[],[])) ?_);(conv=>whnf);refine zax (kfo) (by kernel_rfl) (by kernel_rfl) (by kernel_rfl) ?_;conv=>whnf)
  (refine tSp (fun h=>?_) (fun h=>?_)<;>conv=>whnf)
  ·exact zat [] (by intro q hq;cases hq) (zah ⟨zag agD,zaj _ rfl,zaj _ rfl,rfl⟩)
  ·exact absurd (by first | exact h | (simpa using h)) he
end Go.Proofs
