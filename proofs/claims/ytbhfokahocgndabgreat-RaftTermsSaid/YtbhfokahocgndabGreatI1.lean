import Derived.Test.YtbhfokahocgndabGreatC1
import Derived.Test.YtbhfokahocgndabGreatH10
import Derived.Test.YtbhfokahocgndabGreatC5
/- Contracts of functions: a message is taken, by its kind: one kind. (genH17.py writes this) -/
set_option linter.unusedSimpArgs false
set_option linter.unusedVariables false
namespace Go.Proofs
open Go.Pv
set_option maxRecDepth 100000
set_option maxHeartbeats 8000000 in
theorem zu3 (r : Rft) (hf : Fit r) (out : List (List PV)) (ho : out.length ≤ 4000000) (m : Mg) (hfr : 0 ≤ m.frm ∧ m.frm < 7) (hmt : m.term ≤ 1099511627776) (heq : m.term = r.hard.term) :
    CtrE Tryz.prog 52 [.pt 1000000 0,.ag (mkY m 2 false).enc] [(1000000,repI r out)] (obI r out) (iv 0) [(1000000,repX (r) (out++([]:List (List PV))))] obX:=by
 have hl0:=hf.log
 have hT0:=hf.term
 have hfx:=hf
 have hx0:¬ (mkY m 2 false).term < r.hard.term:=by show ¬ m.term < r.hard.term;omega
 have hg1:¬ r.hard.term < (mkY m 2 false).term:=by show ¬ r.hard.term < m.term;omega
 have hlx:=hfx.log
 have hmx:r.hard.log.length≤maxLen:=zak (by omega)
 rw [List.append_nil]
 refine za1 Tryz.func52 ?_;conv=>whnf
 (first | refine tYes ?_ | refine tNo ?_)
 conv=>whnf
 (first | refine tYes ?_ | refine tNo ?_)
 conv=>whnf
 refine ⟨⟨by decide,hfr.1⟩,?_⟩
 conv=>whnf
 (refine tSp (fun h=>?_) (fun h=>?_)<;>conv=>whnf)
 ·(refine zad 1000000 9 1000000 _ _ rfl rfl rfl rfl ?_;refine zad 1000000 10 1000001 _ _ rfl rfl rfl rfl ?_;refine zad 1000000 39 1000002 _ _ rfl rfl rfl rfl ?_;refine zad 1000000 40 1000003 _ _ rfl rfl rfl rfl ?_;refine zae [(1000000,1000000),(1000001,1000001),(1000002,1000002),(1000003,1000003)] [] ?_;(conv=>whnf);exact wkD)
 ·(refine zad 1000000 9 1000000 _ _ rfl rfl rfl rfl ?_;refine zad 1000000 10 1000001 _ _ rfl rfl rfl rfl ?_;refine zad 1000000 39 1000002 _ _ rfl rfl rfl rfl ?_;refine zad 1000000 40 1000003 _ _ rfl rfl rfl rfl ?_;refine zae [(1000000,1000000),(1000001,1000001),(1000002,1000002),(1000003,1000003)] [] ?_;(conv=>whnf);exact wkD)
set_option maxHeartbeats 8000000 in
theorem zs6 (r : Rft) (hf : Fit r) (out : List (List PV)) (ho : out.length ≤ 4000000) (m : Mg) (hfr : 0 ≤ m.frm ∧ m.frm < 7) (hmt : m.term ≤ 1099511627776) (hgt : r.hard.term < m.term) :
    CtrE Tryz.prog 52 [.pt 1000000 0,.ag (mkY m 2 false).enc] [(1000000,repI r out)] (obI r out) (iv 0) [(1000000,repX ((fallR r m.term (-1))) (out++([]:List (List PV))))] obX:=by
 have hl0:=hf.log
 have hT0:=hf.term
 have kf:=zdu r (zak (by omega)) out m.term (-1)
 have hfx:=zb3 hf (t:=m.term) (by omega) (-1)
 have hxt:=zbq hgt (-1)
 have hx0:¬ (mkY m 2 false).term < (fallR r m.term (-1)).hard.term:=by show ¬ m.term < (fallR r m.term (-1)).hard.term;omega
 have hg1:r.hard.term < (mkY m 2 false).term:=hgt
 have hlx:=hfx.log
 have hmx:(fallR r m.term (-1)).hard.log.length≤maxLen:=zak (by omega)
 rw [List.append_nil]
 refine za1 Tryz.func52 ?_;conv=>whnf
 (first | refine tYes ?_ | refine tNo ?_)
 conv=>whnf
 ((refine Exists.intro (some ([(1000000,1000000)],[(1000000,1000000),(1000001,1000001),(1000002,1000002),(1000003,1000003)],[(2,3000)])) ?_);(conv=>whnf);first | ((with_reducible refine zam (kf) ?_);conv=>whnf))
 (first | refine tYes ?_ | refine tNo ?_)
 conv=>whnf
 refine ⟨⟨by decide,hfr.1⟩,?_⟩
 conv=>whnf
 (refine zad 1000000 9 1000000 _ _ rfl rfl rfl rfl ?_;refine zad 1000000 10 1000001 _ _ rfl rfl rfl rfl ?_;refine zad 1000000 39 3000 _ _ rfl rfl rfl rfl ?_;refine zad 1000000 40 1000003 _ _ rfl rfl rfl rfl ?_;refine zae [(1000000,1000000),(1000001,1000001),(1000002,1000002),(1000003,1000003)] [] ?_;(conv=>whnf);exact wkD)
set_option maxHeartbeats 8000000 in
theorem zvx (r : Rft) (hf : Fit r) (out : List (List PV)) (ho : out.length ≤ 4000000) (m : Mg) (hfr : 0 ≤ m.frm ∧ m.frm < 7) (hmt : m.term ≤ 1099511627776) (hge : r.hard.term < m.term) :
    CtrE Tryz.prog 52 [.pt 1000000 0,.ag (mkY m 2 true).enc] [(1000000,repI r out)] (obI r out) (iv 0) [(1000000,repX (k2R r (mkY m 2 true)) (out++k2O r (mkY m 2 true)))] obX:=by
 have hl0:=hf.log
 have hT0:=hf.term
 have hfx:=hf
 have hx0:¬ (mkY m 2 true).term < r.hard.term:=by show ¬ m.term < r.hard.term;omega
 have hg1:r.hard.term < (mkY m 2 true).term:=hge
 have hlx:=hfx.log
 have hmx:r.hard.log.length≤maxLen:=zak (by omega)
 have kw:=zk4 (vtR r (mkY m 2 true)) hmx
 have kst:=zi6 (vtR r (mkY m 2 true)) ⟨hfx.id,hfx.log,hfx.snap,hfx.base,hfx.term,hfx.round,hfx.quiet,hfx.wait,hfx.next,hfx.silent,hfx.reads⟩ out ho
 have ew:IntKind.i64.wrap (r.hard.term+1)=r.hard.term+1:=zal (by have:=hfx.term;omega) (by have:=hfx.term;omega)
 refine za1 Tryz.func52 ?_;conv=>whnf
 (first | refine tYes ?_ | refine tNo ?_)
 conv=>whnf
 (first | refine tYes ?_ | refine tNo ?_)
 conv=>whnf
 refine ⟨⟨by decide,hfr.1⟩,?_⟩
 conv=>whnf
 unfold k2R k2O
 (refine tSp (fun h=>?_) (fun h=>?_)<;>conv=>whnf)
 ·have h:r.role=1:=h
  rw [if_pos h,if_pos h]
  rw [ew]
  conv=>whnf
  (refine tSp (fun h=>?_) (fun h=>?_)<;>conv=>whnf)
  ·have h:m.term=r.hard.term+1:=h
   rw [if_pos h,if_pos h]
   ((try (refine Exists.intro none ?_;conv=>whnf));refine tOwn0 ?_;conv=>whnf)
   ((try (refine Exists.intro none ?_;conv=>whnf));refine tOwn0 ?_;conv=>whnf)
   ((try (refine Exists.intro none ?_;conv=>whnf));refine tOwn0 ?_;conv=>whnf)
   cases hq:zbb (zac (vtR r (mkY m 2 true))) (vtR r (mkY m 2 true)).votes with
   | true =>
    rw [hq] at kw
    rw [if_pos rfl,if_pos rfl]
    ((try ((refine Exists.intro none ?_);(conv=>whnf)));first | (refine zai (kw) (by simp only [List.drop_zero,List.take_length]) ?_;conv=>whnf))
    ((refine Exists.intro (some ([(1000000,1000000)],[(1000000,1000000),(1000001,1000001),(1000002,1000002),(1000003,1000003)],[])) ?_);(conv=>whnf);first | ((with_reducible refine zam (kst) ?_);conv=>whnf))
    (refine zae [(1000000,1000000),(1000001,1000001),(1000002,1000002),(1000003,1000003)] [] ?_;(conv=>whnf);exact wkD)
   | false =>
    rw [hq] at kw
    rw [if_neg (show ¬ false=true by decide),if_neg (show ¬ false=true by decide),List.append_nil]
    ((try ((refine Exists.intro none ?_);(conv=>whnf)));first | (refine zai (kw) (by simp only [List.drop_zero,List.take_length]) ?_;conv=>whnf))
    (refine zad 1000000 9 1000000 _ _ rfl rfl rfl rfl ?_;refine zad 1000000 10 1000001 _ _ rfl rfl rfl rfl ?_;refine zad 1000000 39 1000002 _ _ rfl rfl rfl rfl ?_;refine zad 1000000 40 1000003 _ _ rfl rfl rfl rfl ?_;refine zae [(1000000,1000000),(1000001,1000001),(1000002,1000002),(1000003,1000003)] [] ?_;(conv=>whnf);exact wkD)
  ·have h:¬ m.term=r.hard.term+1:=h
   rw [if_neg h,if_neg h,List.append_nil]
   (refine zad 1000000 9 1000000 _ _ rfl rfl rfl rfl ?_;refine zad 1000000 10 1000001 _ _ rfl rfl rfl rfl ?_;refine zad 1000000 39 1000002 _ _ rfl rfl rfl rfl ?_;refine zad 1000000 40 1000003 _ _ rfl rfl rfl rfl ?_;refine zae [(1000000,1000000),(1000001,1000001),(1000002,1000002),(1000003,1000003)] [] ?_;(conv=>whnf);exact wkD)
 ·have h:¬ r.role=1:=h
  rw [if_neg h,if_neg h,List.append_nil]
  (refine zad 1000000 9 1000000 _ _ rfl rfl rfl rfl ?_;refine zad 1000000 10 1000001 _ _ rfl rfl rfl rfl ?_;refine zad 1000000 39 1000002 _ _ rfl rfl rfl rfl ?_;refine zad 1000000 40 1000003 _ _ rfl rfl rfl rfl ?_;refine zae [(1000000,1000000),(1000001,1000001),(1000002,1000002),(1000003,1000003)] [] ?_;(conv=>whnf);exact wkD)
set_option maxHeartbeats 8000000 in
theorem zwz (r : Rft) (hf : Fit r) (out : List (List PV)) (ho : out.length ≤ 4000000) (m : Mg) (hfr : 0 ≤ m.frm ∧ m.frm < 7) (hmt : m.term ≤ 1099511627776) (heq : m.term = r.hard.term) :
    CtrE Tryz.prog 52 [.pt 1000000 0,.ag (mkY m 2 true).enc] [(1000000,repI r out)] (obI r out) (iv 0) [(1000000,repX (k2R r (mkY m 2 true)) (out++k2O r (mkY m 2 true)))] obX:=by
 have hl0:=hf.log
 have hT0:=hf.term
 have hfx:=hf
 have hx0:¬ (mkY m 2 true).term < r.hard.term:=by show ¬ m.term < r.hard.term;omega
 have hg1:¬ r.hard.term < (mkY m 2 true).term:=by show ¬ r.hard.term < m.term;omega
 have hlx:=hfx.log
 have hmx:r.hard.log.length≤maxLen:=zak (by omega)
 have kw:=zk4 (vtR r (mkY m 2 true)) hmx
 have kst:=zi6 (vtR r (mkY m 2 true)) ⟨hfx.id,hfx.log,hfx.snap,hfx.base,hfx.term,hfx.round,hfx.quiet,hfx.wait,hfx.next,hfx.silent,hfx.reads⟩ out ho
 have ew:IntKind.i64.wrap (r.hard.term+1)=r.hard.term+1:=zal (by have:=hfx.term;omega) (by have:=hfx.term;omega)
 refine za1 Tryz.func52 ?_;conv=>whnf
 (first | refine tYes ?_ | refine tNo ?_)
 conv=>whnf
 (first | refine tYes ?_ | refine tNo ?_)
 conv=>whnf
 refine ⟨⟨by decide,hfr.1⟩,?_⟩
 conv=>whnf
 unfold k2R k2O
 (refine tSp (fun h=>?_) (fun h=>?_)<;>conv=>whnf)
 ·have h:r.role=1:=h
  rw [if_pos h,if_pos h]
  rw [ew]
  conv=>whnf
  (refine tSp (fun h=>?_) (fun h=>?_)<;>conv=>whnf)
  ·have h:m.term=r.hard.term+1:=h
   rw [if_pos h,if_pos h]
   ((try (refine Exists.intro none ?_;conv=>whnf));refine tOwn0 ?_;conv=>whnf)
   ((try (refine Exists.intro none ?_;conv=>whnf));refine tOwn0 ?_;conv=>whnf)
   ((try (refine Exists.intro none ?_;conv=>whnf));refine tOwn0 ?_;conv=>whnf)
   cases hq:zbb (zac (vtR r (mkY m 2 true))) (vtR r (mkY m 2 true)).votes with
   | true =>
    rw [hq] at kw
    rw [if_pos rfl,if_pos rfl]
    ((try ((refine Exists.intro none ?_);(conv=>whnf)));first | (refine zai (kw) (by simp only [List.drop_zero,List.take_length]) ?_;conv=>whnf))
    ((refine Exists.intro (some ([(1000000,1000000)],[(1000000,1000000),(1000001,1000001),(1000002,1000002),(1000003,1000003)],[])) ?_);(conv=>whnf);first | ((with_reducible refine zam (kst) ?_);conv=>whnf))
    (refine zae [(1000000,1000000),(1000001,1000001),(1000002,1000002),(1000003,1000003)] [] ?_;(conv=>whnf);exact wkD)
   | false =>
    rw [hq] at kw
    rw [if_neg (show ¬ false=true by decide),if_neg (show ¬ false=true by decide),List.append_nil]
    ((try ((refine Exists.intro none ?_);(conv=>whnf)));first | (refine zai (kw) (by simp only [List.drop_zero,List.take_length]) ?_;conv=>whnf))
    (refine zad 1000000 9 1000000 _ _ rfl rfl rfl rfl ?_;refine zad 1000000 10 1000001 _ _ rfl rfl rfl rfl ?_;refine zad 1000000 39 1000002 _ _ rfl rfl rfl rfl ?_;refine zad 1000000 40 1000003 _ _ rfl rfl rfl rfl ?_;refine zae [(1000000,1000000),(1000001,1000001),(1000002,1000002),(1000003,1000003)] [] ?_;(conv=>whnf);exact wkD)
  ·have h:¬ m.term=r.hard.term+1:=h
   rw [if_neg h,if_neg h,List.append_nil]
   (refine zad 1000000 9 1000000 _ _ rfl rfl rfl rfl ?_;refine zad 1000000 10 1000001 _ _ rfl rfl rfl rfl ?_;refine zad 1000000 39 1000002 _ _ rfl rfl rfl rfl ?_;refine zad 1000000 40 1000003 _ _ rfl rfl rfl rfl ?_;refine zae [(1000000,1000000),(1000001,1000001),(1000002,1000002),(1000003,1000003)] [] ?_;(conv=>whnf);exact wkD)
 ·have h:¬ r.role=1:=h
  rw [if_neg h,if_neg h,List.append_nil]
  (refine zad 1000000 9 1000000 _ _ rfl rfl rfl rfl ?_;refine zad 1000000 10 1000001 _ _ rfl rfl rfl rfl ?_;refine zad 1000000 39 1000002 _ _ rfl rfl rfl rfl ?_;refine zad 1000000 40 1000003 _ _ rfl rfl rfl rfl ?_;refine zae [(1000000,1000000),(1000001,1000001),(1000002,1000002),(1000003,1000003)] [] ?_;(conv=>whnf);exact wkD)
set_option maxHeartbeats 8000000 in
theorem zxt (r : Rft) (hf : Fit r) (out : List (List PV)) (ho : out.length ≤ 4000000) (m : Mg) (hfr : 0 ≤ m.frm ∧ m.frm < 7) (hmt : m.term ≤ 1099511627776) (heq : m.term = r.hard.term) :
    CtrE Tryz.prog 52 [.pt 1000000 0,.ag (mkM m 3).enc] [(1000000,repI r out)] (obI r out) (iv 0) [(1000000,repX (k3R r (mkM m 3)) (out++k3O r (mkM m 3)))] obX:=by
 have hl0:=hf.log
 have hT0:=hf.term
 have hfx:=hf
 have hx0:¬ (mkM m 3).term < r.hard.term:=by show ¬ m.term < r.hard.term;omega
 have hg1:¬ r.hard.term < (mkM m 3).term:=by show ¬ r.hard.term < m.term;omega
 have hlx:=hfx.log
 have hmx:r.hard.log.length≤maxLen:=zak (by omega)
 have kv:=zux r hmx (mkM m 3)
 have kfv:=zdu (vdR r (mkM m 3)) hmx out r.hard.term (-1)
 have kan:=zer r out (by omega) (mkM m 3) 4 0 0 false
 have kay:=zer (fallR (vdR r (mkM m 3)) r.hard.term (-1)) out (by omega) (mkM m 3) 4 0 0 true
 unfold k3R k3O
 generalize fallR (vdR r (mkM m 3)) r.hard.term (-1)=z at *
 refine za1 Tryz.func52 ?_;conv=>whnf
 (first | refine tYes ?_ | refine tNo ?_)
 conv=>whnf
 (first | refine tYes ?_ | refine tNo ?_)
 conv=>whnf
 refine ⟨⟨by decide,hfr.1⟩,?_⟩
 conv=>whnf
 ((try (refine Exists.intro none ?_;conv=>whnf));refine tOwn0 ?_;conv=>whnf)
 ((try (refine Exists.intro none ?_;conv=>whnf));refine tOwn0 ?_;conv=>whnf)
 ((try (refine Exists.intro none ?_;conv=>whnf));refine tOwn0 ?_;conv=>whnf)
 cases hq:voted r (mkM m 3) with
 | true =>
  rw [hq] at kv
  rw [if_pos rfl,if_pos rfl]
  ((try ((refine Exists.intro none ?_);(conv=>whnf)));first | (refine zai (kv) (by simp only [List.drop_zero,List.take_length]) ?_;conv=>whnf))
  ((refine Exists.intro (some ([(1000000,1000000)],[(1000000,1000000),(1000001,1000001),(1000002,1000002),(1000003,1000003)],[(2,3001)])) ?_);(conv=>whnf);first | ((with_reducible refine zam (kfv) ?_);conv=>whnf))
  ((refine Exists.intro (some ([(1000000,1000000)],[(1000000,1000000),(1000001,1000001),(1000002,3001),(1000003,1000003)],[(1,4000)])) ?_);(conv=>whnf);first | ((with_reducible refine zam (kay) ?_);conv=>whnf))
  (refine zad 1000000 9 1000000 _ _ rfl rfl rfl rfl ?_;refine zad 1000000 10 1000001 _ _ rfl rfl rfl rfl ?_;refine zad 1000000 39 3001 _ _ rfl rfl rfl rfl ?_;refine zad 1000000 40 4000 _ _ rfl rfl rfl rfl ?_;refine zae [(1000000,1000000),(1000001,1000001),(1000002,1000002),(1000003,1000003)] [] ?_;(conv=>whnf);exact wkD)
 | false =>
  rw [hq] at kv
  rw [if_neg (show ¬ false=true by decide),if_neg (show ¬ false=true by decide)]
  ((try ((refine Exists.intro none ?_);(conv=>whnf)));first | (refine zai (kv) (by simp only [List.drop_zero,List.take_length]) ?_;conv=>whnf))
  ((refine Exists.intro (some ([(1000000,1000000)],[(1000000,1000000),(1000001,1000001),(1000002,1000002),(1000003,1000003)],[(1,4000)])) ?_);(conv=>whnf);first | ((with_reducible refine zam (kan) ?_);conv=>whnf))
  (refine zad 1000000 9 1000000 _ _ rfl rfl rfl rfl ?_;refine zad 1000000 10 1000001 _ _ rfl rfl rfl rfl ?_;refine zad 1000000 39 1000002 _ _ rfl rfl rfl rfl ?_;refine zad 1000000 40 4000 _ _ rfl rfl rfl rfl ?_;refine zae [(1000000,1000000),(1000001,1000001),(1000002,1000002),(1000003,1000003)] [] ?_;(conv=>whnf);exact wkD)
set_option maxHeartbeats 8000000 in
theorem zvt (r : Rft) (hf : Fit r) (out : List (List PV)) (ho : out.length ≤ 4000000) (m : Mg) (hfr : 0 ≤ m.frm ∧ m.frm < 7) (hmt : m.term ≤ 1099511627776) (hgt : r.hard.term < m.term) :
    CtrE Tryz.prog 52 [.pt 1000000 0,.ag (mkM m 3).enc] [(1000000,repI r out)] (obI r out) (iv 0) [(1000000,repX (k3R (fallR r m.term (-1)) (mkM m 3)) (out++k3O (fallR r m.term (-1)) (mkM m 3)))] obX:=by
 have hl0:=hf.log
 have hT0:=hf.term
 have kf:=zdu r (zak (by omega)) out m.term (-1)
 have hfx:=zb3 hf (t:=m.term) (by omega) (-1)
 have hxt:=zbq hgt (-1)
 generalize fallR r m.term (-1)=x at *
 have hx0:¬ (mkM m 3).term < x.hard.term:=by show ¬ m.term < x.hard.term;omega
 have hg1:r.hard.term < (mkM m 3).term:=hgt
 have hlx:=hfx.log
 have hmx:x.hard.log.length≤maxLen:=zak (by omega)
 have kv:=zux x hmx (mkM m 3)
 have kfv:=zdu (vdR x (mkM m 3)) hmx out x.hard.term (-1)
 have kan:=zer x out (by omega) (mkM m 3) 4 0 0 false
 have kay:=zer (fallR (vdR x (mkM m 3)) x.hard.term (-1)) out (by omega) (mkM m 3) 4 0 0 true
 unfold k3R k3O
 generalize fallR (vdR x (mkM m 3)) x.hard.term (-1)=z at *
 refine za1 Tryz.func52 ?_;conv=>whnf
 (first | refine tYes ?_ | refine tNo ?_)
 conv=>whnf
 ((refine Exists.intro (some ([(1000000,1000000)],[(1000000,1000000),(1000001,1000001),(1000002,1000002),(1000003,1000003)],[(2,3000)])) ?_);(conv=>whnf);first | ((with_reducible refine zam (kf) ?_);conv=>whnf))
 (first | refine tYes ?_ | refine tNo ?_)
 conv=>whnf
 refine ⟨⟨by decide,hfr.1⟩,?_⟩
 conv=>whnf
 ((try (refine Exists.intro none ?_;conv=>whnf));refine tOwn0 ?_;conv=>whnf)
 ((try (refine Exists.intro none ?_;conv=>whnf));refine tOwn0 ?_;conv=>whnf)
 ((try (refine Exists.intro none ?_;conv=>whnf));refine tOwn0 ?_;conv=>whnf)
 cases hq:voted x (mkM m 3) with
 | true =>
  rw [hq] at kv
  rw [if_pos rfl,if_pos rfl]
  ((try ((refine Exists.intro none ?_);(conv=>whnf)));first | (refine zai (kv) (by simp only [List.drop_zero,List.take_length]) ?_;conv=>whnf))
  ((refine Exists.intro (some ([(1000000,1000000)],[(1000000,1000000),(1000001,1000001),(1000002,3000),(1000003,1000003)],[(2,3001)])) ?_);(conv=>whnf);first | ((with_reducible refine zam (kfv) ?_);conv=>whnf))
  ((refine Exists.intro (some ([(1000000,1000000)],[(1000000,1000000),(1000001,1000001),(1000002,3001),(1000003,1000003)],[(1,4000)])) ?_);(conv=>whnf);first | ((with_reducible refine zam (kay) ?_);conv=>whnf))
  (refine zad 1000000 9 1000000 _ _ rfl rfl rfl rfl ?_;refine zad 1000000 10 1000001 _ _ rfl rfl rfl rfl ?_;refine zad 1000000 39 3001 _ _ rfl rfl rfl rfl ?_;refine zad 1000000 40 4000 _ _ rfl rfl rfl rfl ?_;refine zae [(1000000,1000000),(1000001,1000001),(1000002,1000002),(1000003,1000003)] [] ?_;(conv=>whnf);exact wkD)
 | false =>
  rw [hq] at kv
  rw [if_neg (show ¬ false=true by decide),if_neg (show ¬ false=true by decide)]
  ((try ((refine Exists.intro none ?_);(conv=>whnf)));first | (refine zai (kv) (by simp only [List.drop_zero,List.take_length]) ?_;conv=>whnf))
  ((refine Exists.intro (some ([(1000000,1000000)],[(1000000,1000000),(1000001,1000001),(1000002,3000),(1000003,1000003)],[(1,4000)])) ?_);(conv=>whnf);first | ((with_reducible refine zam (kan) ?_);conv=>whnf))
  (refine zad 1000000 9 1000000 _ _ rfl rfl rfl rfl ?_;refine zad 1000000 10 1000001 _ _ rfl rfl rfl rfl ?_;refine zad 1000000 39 3000 _ _ rfl rfl rfl rfl ?_;refine zad 1000000 40 4000 _ _ rfl rfl rfl rfl ?_;refine zae [(1000000,1000000),(1000001,1000001),(1000002,1000002),(1000003,1000003)] [] ?_;(conv=>whnf);exact wkD)
set_option maxHeartbeats 8000000 in
theorem ztr (r : Rft) (hf : Fit r) (out : List (List PV)) (ho : out.length ≤ 4000000) (m : Mg) (hfr : 0 ≤ m.frm ∧ m.frm < 7) (hmt : m.term ≤ 1099511627776) (heq : m.term = r.hard.term) :
    CtrE Tryz.prog 52 [.pt 1000000 0,.ag (mkY m 4 false).enc] [(1000000,repI r out)] (obI r out) (iv 0) [(1000000,repX (r) (out++([]:List (List PV))))] obX:=by
 have hl0:=hf.log
 have hT0:=hf.term
 have hfx:=hf
 have hx0:¬ (mkY m 4 false).term < r.hard.term:=by show ¬ m.term < r.hard.term;omega
 have hg1:¬ r.hard.term < (mkY m 4 false).term:=by show ¬ r.hard.term < m.term;omega
 have hlx:=hfx.log
 have hmx:r.hard.log.length≤maxLen:=zak (by omega)
 rw [List.append_nil]
 refine za1 Tryz.func52 ?_;conv=>whnf
 (first | refine tYes ?_ | refine tNo ?_)
 conv=>whnf
 (first | refine tYes ?_ | refine tNo ?_)
 conv=>whnf
 refine ⟨⟨by decide,hfr.1⟩,?_⟩
 conv=>whnf
 (refine tSp (fun h=>?_) (fun h=>?_)<;>conv=>whnf)
 ·(refine zad 1000000 9 1000000 _ _ rfl rfl rfl rfl ?_;refine zad 1000000 10 1000001 _ _ rfl rfl rfl rfl ?_;refine zad 1000000 39 1000002 _ _ rfl rfl rfl rfl ?_;refine zad 1000000 40 1000003 _ _ rfl rfl rfl rfl ?_;refine zae [(1000000,1000000),(1000001,1000001),(1000002,1000002),(1000003,1000003)] [] ?_;(conv=>whnf);exact wkD)
 ·(refine zad 1000000 9 1000000 _ _ rfl rfl rfl rfl ?_;refine zad 1000000 10 1000001 _ _ rfl rfl rfl rfl ?_;refine zad 1000000 39 1000002 _ _ rfl rfl rfl rfl ?_;refine zad 1000000 40 1000003 _ _ rfl rfl rfl rfl ?_;refine zae [(1000000,1000000),(1000001,1000001),(1000002,1000002),(1000003,1000003)] [] ?_;(conv=>whnf);exact wkD)
set_option maxHeartbeats 8000000 in
theorem zs0 (r : Rft) (hf : Fit r) (out : List (List PV)) (ho : out.length ≤ 4000000) (m : Mg) (hfr : 0 ≤ m.frm ∧ m.frm < 7) (hmt : m.term ≤ 1099511627776) (hgt : r.hard.term < m.term) :
    CtrE Tryz.prog 52 [.pt 1000000 0,.ag (mkY m 4 false).enc] [(1000000,repI r out)] (obI r out) (iv 0) [(1000000,repX ((fallR r m.term (-1))) (out++([]:List (List PV))))] obX:=by
 have hl0:=hf.log
 have hT0:=hf.term
 have kf:=zdu r (zak (by omega)) out m.term (-1)
 have hfx:=zb3 hf (t:=m.term) (by omega) (-1)
 have hxt:=zbq hgt (-1)
 generalize fallR r m.term (-1)=x at *
 have hx0:¬ (mkY m 4 false).term < x.hard.term:=by show ¬ m.term < x.hard.term;omega
 have hg1:r.hard.term < (mkY m 4 false).term:=hgt
 have hlx:=hfx.log
 have hmx:x.hard.log.length≤maxLen:=zak (by omega)
 rw [List.append_nil]
 refine za1 Tryz.func52 ?_;conv=>whnf
 (first | refine tYes ?_ | refine tNo ?_)
 conv=>whnf
 ((refine Exists.intro (some ([(1000000,1000000)],[(1000000,1000000),(1000001,1000001),(1000002,1000002),(1000003,1000003)],[(2,3000)])) ?_);(conv=>whnf);first | ((with_reducible refine zam (kf) ?_);conv=>whnf))
 (first | refine tYes ?_ | refine tNo ?_)
 conv=>whnf
 refine ⟨⟨by decide,hfr.1⟩,?_⟩
 conv=>whnf
 (refine tSp (fun h=>?_) (fun h=>?_)<;>conv=>whnf)
 ·(refine zad 1000000 9 1000000 _ _ rfl rfl rfl rfl ?_;refine zad 1000000 10 1000001 _ _ rfl rfl rfl rfl ?_;refine zad 1000000 39 3000 _ _ rfl rfl rfl rfl ?_;refine zad 1000000 40 1000003 _ _ rfl rfl rfl rfl ?_;refine zae [(1000000,1000000),(1000001,1000001),(1000002,1000002),(1000003,1000003)] [] ?_;(conv=>whnf);exact wkD)
 ·(refine zad 1000000 9 1000000 _ _ rfl rfl rfl rfl ?_;refine zad 1000000 10 1000001 _ _ rfl rfl rfl rfl ?_;refine zad 1000000 39 3000 _ _ rfl rfl rfl rfl ?_;refine zad 1000000 40 1000003 _ _ rfl rfl rfl rfl ?_;refine zae [(1000000,1000000),(1000001,1000001),(1000002,1000002),(1000003,1000003)] [] ?_;(conv=>whnf);exact wkD)
set_option maxHeartbeats 8000000 in
theorem zt6 (r : Rft) (hf : Fit r) (out : List (List PV)) (ho : out.length ≤ 4000000) (m : Mg) (hfr : 0 ≤ m.frm ∧ m.frm < 7) (hmt : m.term ≤ 1099511627776) (heq : m.term = r.hard.term) :
    CtrE Tryz.prog 52 [.pt 1000000 0,.ag (mkY m 4 true).enc] [(1000000,repI r out)] (obI r out) (iv 0) [(1000000,repX (k4R r (mkY m 4 true)) (out++k4O r (mkY m 4 true)))] obX:=by
 have hl0:=hf.log
 have hT0:=hf.term
 have hfx:=hf
 have hx0:¬ (mkY m 4 true).term < r.hard.term:=by show ¬ m.term < r.hard.term;omega
 have hg1:¬ r.hard.term < (mkY m 4 true).term:=by show ¬ r.hard.term < m.term;omega
 have hlx:=hfx.log
 have hmx:r.hard.log.length≤maxLen:=zak (by omega)
 have kw:=zk4 (vtR r (mkY m 4 true)) hmx
 have kld:=zt5 (vtR r (mkY m 4 true)) hfx.id hfx.log hfx.snap hfx.base hfx.round out ho
 refine za1 Tryz.func52 ?_;conv=>whnf
 (first | refine tYes ?_ | refine tNo ?_)
 conv=>whnf
 (first | refine tYes ?_ | refine tNo ?_)
 conv=>whnf
 refine ⟨⟨by decide,hfr.1⟩,?_⟩
 conv=>whnf
 unfold k4R k4O
 (refine tSp (fun h=>?_) (fun h=>?_)<;>conv=>whnf)
 ·have h:r.role=2:=h
  rw [if_pos h,if_pos h]
  ((try (refine Exists.intro none ?_;conv=>whnf));refine tOwn0 ?_;conv=>whnf)
  ((try (refine Exists.intro none ?_;conv=>whnf));refine tOwn0 ?_;conv=>whnf)
  ((try (refine Exists.intro none ?_;conv=>whnf));refine tOwn0 ?_;conv=>whnf)
  cases hq:zbb (zac (vtR r (mkY m 4 true))) (vtR r (mkY m 4 true)).votes with
  | true =>
   rw [hq] at kw
   rw [if_pos rfl,if_pos rfl]
   ((try ((refine Exists.intro none ?_);(conv=>whnf)));first | (refine zai (kw) (by simp only [List.drop_zero,List.take_length]) ?_;conv=>whnf))
   ((refine Exists.intro (some ([(1000000,1000000)],[(1000000,1000000),(1000001,1000001),(1000002,1000002),(1000003,1000003)],[])) ?_);(conv=>whnf);first | ((with_reducible refine zam (kld) ?_);conv=>whnf))
   (refine zae [(1000000,1000000),(1000001,1000001),(1000002,1000002),(1000003,1000003)] [] ?_;(conv=>whnf);exact wkD)
  | false =>
   rw [hq] at kw
   rw [if_neg (show ¬ false=true by decide),if_neg (show ¬ false=true by decide),List.append_nil]
   ((try ((refine Exists.intro none ?_);(conv=>whnf)));first | (refine zai (kw) (by simp only [List.drop_zero,List.take_length]) ?_;conv=>whnf))
   (refine zad 1000000 9 1000000 _ _ rfl rfl rfl rfl ?_;refine zad 1000000 10 1000001 _ _ rfl rfl rfl rfl ?_;refine zad 1000000 39 1000002 _ _ rfl rfl rfl rfl ?_;refine zad 1000000 40 1000003 _ _ rfl rfl rfl rfl ?_;refine zae [(1000000,1000000),(1000001,1000001),(1000002,1000002),(1000003,1000003)] [] ?_;(conv=>whnf);exact wkD)
 ·have h:¬ r.role=2:=h
  rw [if_neg h,if_neg h,List.append_nil]
  (refine zad 1000000 9 1000000 _ _ rfl rfl rfl rfl ?_;refine zad 1000000 10 1000001 _ _ rfl rfl rfl rfl ?_;refine zad 1000000 39 1000002 _ _ rfl rfl rfl rfl ?_;refine zad 1000000 40 1000003 _ _ rfl rfl rfl rfl ?_;refine zae [(1000000,1000000),(1000001,1000001),(1000002,1000002),(1000003,1000003)] [] ?_;(conv=>whnf);exact wkD)
set_option maxHeartbeats 8000000 in
theorem zti (r : Rft) (hf : Fit r) (out : List (List PV)) (ho : out.length ≤ 4000000) (m : Mg) (hfr : 0 ≤ m.frm ∧ m.frm < 7) (hmt : m.term ≤ 1099511627776) (hgt : r.hard.term < m.term) :
    CtrE Tryz.prog 52 [.pt 1000000 0,.ag (mkY m 4 true).enc] [(1000000,repI r out)] (obI r out) (iv 0) [(1000000,repX (k4R (fallR r m.term (-1)) (mkY m 4 true)) (out++k4O (fallR r m.term (-1)) (mkY m 4 true)))] obX:=by
 have hl0:=hf.log
 have hT0:=hf.term
 have kf:=zdu r (zak (by omega)) out m.term (-1)
 have hfx:=zb3 hf (t:=m.term) (by omega) (-1)
 have hxt:=zbq hgt (-1)
 generalize fallR r m.term (-1)=x at *
 have hx0:¬ (mkY m 4 true).term < x.hard.term:=by show ¬ m.term < x.hard.term;omega
 have hg1:r.hard.term < (mkY m 4 true).term:=hgt
 have hlx:=hfx.log
 have hmx:x.hard.log.length≤maxLen:=zak (by omega)
 have kw:=zk4 (vtR x (mkY m 4 true)) hmx
 have kld:=zt5 (vtR x (mkY m 4 true)) hfx.id hfx.log hfx.snap hfx.base hfx.round out ho
 refine za1 Tryz.func52 ?_;conv=>whnf
 (first | refine tYes ?_ | refine tNo ?_)
 conv=>whnf
 ((refine Exists.intro (some ([(1000000,1000000)],[(1000000,1000000),(1000001,1000001),(1000002,1000002),(1000003,1000003)],[(2,3000)])) ?_);(conv=>whnf);first | ((with_reducible refine zam (kf) ?_);conv=>whnf))
 (first | refine tYes ?_ | refine tNo ?_)
 conv=>whnf
 refine ⟨⟨by decide,hfr.1⟩,?_⟩
 conv=>whnf
 unfold k4R k4O
 (refine tSp (fun h=>?_) (fun h=>?_)<;>conv=>whnf)
 ·have h:x.role=2:=h
  rw [if_pos h,if_pos h]
  ((try (refine Exists.intro none ?_;conv=>whnf));refine tOwn0 ?_;conv=>whnf)
  ((try (refine Exists.intro none ?_;conv=>whnf));refine tOwn0 ?_;conv=>whnf)
  ((try (refine Exists.intro none ?_;conv=>whnf));refine tOwn0 ?_;conv=>whnf)
  cases hq:zbb (zac (vtR x (mkY m 4 true))) (vtR x (mkY m 4 true)).votes with
  | true =>
   rw [hq] at kw
   rw [if_pos rfl,if_pos rfl]
   ((try ((refine Exists.intro none ?_);(conv=>whnf)));first | (refine zai (kw) (by simp only [List.drop_zero,List.take_length]) ?_;conv=>whnf))
   ((refine Exists.intro (some ([(1000000,1000000)],[(1000000,1000000),(1000001,1000001),(1000002,3000),(1000003,1000003)],[])) ?_);(conv=>whnf);first | ((with_reducible refine zam (kld) ?_);conv=>whnf))
   (refine zae [(1000000,1000000),(1000001,1000001),(1000002,1000002),(1000003,1000003)] [] ?_;(conv=>whnf);exact wkD)
  | false =>
   rw [hq] at kw
   rw [if_neg (show ¬ false=true by decide),if_neg (show ¬ false=true by decide),List.append_nil]
   ((try ((refine Exists.intro none ?_);(conv=>whnf)));first | (refine zai (kw) (by simp only [List.drop_zero,List.take_length]) ?_;conv=>whnf))
   (refine zad 1000000 9 1000000 _ _ rfl rfl rfl rfl ?_;refine zad 1000000 10 1000001 _ _ rfl rfl rfl rfl ?_;refine zad 1000000 39 3000 _ _ rfl rfl rfl rfl ?_;refine zad 1000000 40 1000003 _ _ rfl rfl rfl rfl ?_;refine zae [(1000000,1000000),(1000001,1000001),(1000002,1000002),(1000003,1000003)] [] ?_;(conv=>whnf);exact wkD)
 ·have h:¬ x.role=2:=h
  rw [if_neg h,if_neg h,List.append_nil]
  (refine zad 1000000 9 1000000 _ _ rfl rfl rfl rfl ?_;refine zad 1000000 10 1000001 _ _ rfl rfl rfl rfl ?_;refine zad 1000000 39 3000 _ _ rfl rfl rfl rfl ?_;refine zad 1000000 40 1000003 _ _ rfl rfl rfl rfl ?_;refine zae [(1000000,1000000),(1000001,1000001),(1000002,1000002),(1000003,1000003)] [] ?_;(conv=>whnf);exact wkD)
set_option maxHeartbeats 8000000 in
theorem zyf (r : Rft) (hf : Fit r) (out : List (List PV)) (ho : out.length ≤ 4000000) (m : Mg) (hfr : 0 ≤ m.frm ∧ m.frm < 7) (hmt : m.term ≤ 1099511627776) (heq : m.term = r.hard.term) (hen : m.entries.length ≤ 4294967) (hgl : growE r.hard r.commit (mkM m 5) = 0 → (growO r.hard r.commit (mkM m 5)).h.log.length ≤ maxLen) :
    CtrE Tryz.prog 52 [.pt 1000000 0,.ag (mkM m 5).enc] [(1000000,repI r out)] (obI r out) (iv (appE r (mkM m 5))) [(1000000,repX (appR r (mkM m 5)) (out++appO r (mkM m 5)))] obX:=by
 have hl0:=hf.log
 have hT0:=hf.term
 have hfx:=hf
 have hx0:¬ (mkM m 5).term < r.hard.term:=by show ¬ m.term < r.hard.term;omega
 have hg1:¬ r.hard.term < (mkM m 5).term:=by show ¬ r.hard.term < m.term;omega
 have hlx:=hfx.log
 have hmx:r.hard.log.length≤maxLen:=zak (by omega)
 have ka:=zp8 r hfx out (by omega) (mkM m 5) hen hgl
 refine za1 Tryz.func52 ?_;conv=>whnf
 (first | refine tYes ?_ | refine tNo ?_)
 conv=>whnf
 (first | refine tYes ?_ | refine tNo ?_)
 conv=>whnf
 refine ⟨⟨by decide,hfr.1⟩,?_⟩
 conv=>whnf
 ((refine Exists.intro (some ([(1000000,1000000)],[(1000000,1000000),(1000001,1000001),(1000002,1000002),(1000003,1000003)],[])) ?_);(conv=>whnf);first | ((with_reducible refine zam (ka) ?_);conv=>whnf))
 (refine zae [(1000000,1000000),(1000001,1000001),(1000002,1000002),(1000003,1000003)] [] ?_;(conv=>whnf);exact wkD)
set_option maxHeartbeats 8000000 in
theorem zv3 (r : Rft) (hf : Fit r) (out : List (List PV)) (ho : out.length ≤ 4000000) (m : Mg) (hfr : 0 ≤ m.frm ∧ m.frm < 7) (hmt : m.term ≤ 1099511627776) (hgt : r.hard.term < m.term) (hen : m.entries.length ≤ 4294967) (hgl : growE (fallR r m.term (-1)).hard (fallR r m.term (-1)).commit (mkM m 5) = 0 → (growO (fallR r m.term (-1)).hard (fallR r m.term (-1)).commit (mkM m 5)).h.log.length ≤ maxLen) :
    CtrE Tryz.prog 52 [.pt 1000000 0,.ag (mkM m 5).enc] [(1000000,repI r out)] (obI r out) (iv (appE (fallR r m.term (-1)) (mkM m 5))) [(1000000,repX (appR (fallR r m.term (-1)) (mkM m 5)) (out++appO (fallR r m.term (-1)) (mkM m 5)))] obX:=by
 have hl0:=hf.log
 have hT0:=hf.term
 have kf:=zdu r (zak (by omega)) out m.term (-1)
 have hfx:=zb3 hf (t:=m.term) (by omega) (-1)
 have hxt:=zbq hgt (-1)
 generalize fallR r m.term (-1)=x at *
 have hx0:¬ (mkM m 5).term < x.hard.term:=by show ¬ m.term < x.hard.term;omega
 have hg1:r.hard.term < (mkM m 5).term:=hgt
 have hlx:=hfx.log
 have hmx:x.hard.log.length≤maxLen:=zak (by omega)
 have ka:=zp8 x hfx out (by omega) (mkM m 5) hen hgl
 refine za1 Tryz.func52 ?_;conv=>whnf
 (first | refine tYes ?_ | refine tNo ?_)
 conv=>whnf
 ((refine Exists.intro (some ([(1000000,1000000)],[(1000000,1000000),(1000001,1000001),(1000002,1000002),(1000003,1000003)],[(2,3000)])) ?_);(conv=>whnf);first | ((with_reducible refine zam (kf) ?_);conv=>whnf))
 (first | refine tYes ?_ | refine tNo ?_)
 conv=>whnf
 refine ⟨⟨by decide,hfr.1⟩,?_⟩
 conv=>whnf
 ((refine Exists.intro (some ([(1000000,1000000)],[(1000000,1000000),(1000001,1000001),(1000002,3000),(1000003,1000003)],[])) ?_);(conv=>whnf);first | ((with_reducible refine zam (ka) ?_);conv=>whnf))
 (refine zae [(1000000,1000000),(1000001,1000001),(1000002,1000002),(1000003,1000003)] [] ?_;(conv=>whnf);exact wkD)
set_option maxHeartbeats 8000000 in
theorem zxh (r : Rft) (hf : Fit r) (out : List (List PV)) (ho : out.length ≤ 4000000) (m : Mg) (hfr : 0 ≤ m.frm ∧ m.frm < 7) (hmt : m.term ≤ 1099511627776) (heq : m.term = r.hard.term) (hsn : m.snap.length ≤ 4294967296) (hix : 0 ≤ m.index ∧ m.index ≤ 1099511627776) (hgl : (insHH r (mkM m 7)).log.length ≤ maxLen) :
    CtrE Tryz.prog 52 [.pt 1000000 0,.ag (mkM m 7).enc] [(1000000,repI r out)] (obI r out) (iv (insE r (mkM m 7))) [(1000000,repX (insR r (mkM m 7)) (out++insO r (mkM m 7)))] obX:=by
 have hl0:=hf.log
 have hT0:=hf.term
 have hfx:=hf
 have hx0:¬ (mkM m 7).term < r.hard.term:=by show ¬ m.term < r.hard.term;omega
 have hg1:¬ r.hard.term < (mkM m 7).term:=by show ¬ r.hard.term < m.term;omega
 have hlx:=hfx.log
 have hmx:r.hard.log.length≤maxLen:=zak (by omega)
 have ka:=znx r hfx out (by omega) (mkM m 7) hsn (by unfold isI;exact ⟨by show _≤m.index;omega,by show m.index < _;omega⟩) hgl
 refine za1 Tryz.func52 ?_;conv=>whnf
 (first | refine tYes ?_ | refine tNo ?_)
 conv=>whnf
 (first | refine tYes ?_ | refine tNo ?_)
 conv=>whnf
 refine ⟨⟨by decide,hfr.1⟩,?_⟩
 conv=>whnf
 ((refine Exists.intro (some ([(1000000,1000000)],[(1000000,1000000),(1000001,1000001),(1000002,1000002),(1000003,1000003)],[])) ?_);(conv=>whnf);first | ((with_reducible refine zam (ka) ?_);conv=>whnf))
 (refine zae [(1000000,1000000),(1000001,1000001),(1000002,1000002),(1000003,1000003)] [] ?_;(conv=>whnf);exact wkD)
set_option maxHeartbeats 8000000 in
theorem zv8 (r : Rft) (hf : Fit r) (out : List (List PV)) (ho : out.length ≤ 4000000) (m : Mg) (hfr : 0 ≤ m.frm ∧ m.frm < 7) (hmt : m.term ≤ 1099511627776) (hgt : r.hard.term < m.term) (hsn : m.snap.length ≤ 4294967296) (hix : 0 ≤ m.index ∧ m.index ≤ 1099511627776) (hgl : (insHH (fallR r m.term (-1)) (mkM m 7)).log.length ≤ maxLen) :
    CtrE Tryz.prog 52 [.pt 1000000 0,.ag (mkM m 7).enc] [(1000000,repI r out)] (obI r out) (iv (insE (fallR r m.term (-1)) (mkM m 7))) [(1000000,repX (insR (fallR r m.term (-1)) (mkM m 7)) (out++insO (fallR r m.term (-1)) (mkM m 7)))] obX:=by
 have hl0:=hf.log
 have hT0:=hf.term
 have kf:=zdu r (zak (by omega)) out m.term (-1)
 have hfx:=zb3 hf (t:=m.term) (by omega) (-1)
 have hxt:=zbq hgt (-1)
 generalize fallR r m.term (-1)=x at *
 have hx0:¬ (mkM m 7).term < x.hard.term:=by show ¬ m.term < x.hard.term;omega
 have hg1:r.hard.term < (mkM m 7).term:=hgt
 have hlx:=hfx.log
 have hmx:x.hard.log.length≤maxLen:=zak (by omega)
 have ka:=znx x hfx out (by omega) (mkM m 7) hsn (by unfold isI;exact ⟨by show _≤m.index;omega,by show m.index < _;omega⟩) hgl
 refine za1 Tryz.func52 ?_;conv=>whnf
 (first | refine tYes ?_ | refine tNo ?_)
 conv=>whnf
 ((refine Exists.intro (some ([(1000000,1000000)],[(1000000,1000000),(1000001,1000001),(1000002,1000002),(1000003,1000003)],[(2,3000)])) ?_);(conv=>whnf);first | ((with_reducible refine zam (kf) ?_);conv=>whnf))
 (first | refine tYes ?_ | refine tNo ?_)
 conv=>whnf
 refine ⟨⟨by decide,hfr.1⟩,?_⟩
 conv=>whnf
 ((refine Exists.intro (some ([(1000000,1000000)],[(1000000,1000000),(1000001,1000001),(1000002,3000),(1000003,1000003)],[])) ?_);(conv=>whnf);first | ((with_reducible refine zam (ka) ?_);conv=>whnf))
 (refine zae [(1000000,1000000),(1000001,1000001),(1000002,1000002),(1000003,1000003)] [] ?_;(conv=>whnf);exact wkD)
set_option maxHeartbeats 8000000 in
theorem zx7 (r : Rft) (hf : Fit r) (out : List (List PV)) (ho : out.length ≤ 4000000) (m : Mg) (hfr : 0 ≤ m.frm ∧ m.frm < 7) (hmt : m.term ≤ 1099511627776) (heq : m.term = r.hard.term) (hix : 0 ≤ m.index ∧ m.index ≤ 1099511627776) (hmm : ∀ i, i < 7 → 0 ≤ r.mtch.at i ∧ r.mtch.at i ≤ lastI r.hard) :
    CtrE Tryz.prog 52 [.pt 1000000 0,.ag (mkM m 6).enc] [(1000000,repI r out)] (obI r out) (iv 0) [(1000000,repX (zcj r (mkM m 6)) (out++([]:List (List PV))))] obX:=by
 have hl0:=hf.log
 have hT0:=hf.term
 have hfx:=hf
 have hx0:¬ (mkM m 6).term < r.hard.term:=by show ¬ m.term < r.hard.term;omega
 have hg1:¬ r.hard.term < (mkM m 6).term:=by show ¬ r.hard.term < m.term;omega
 have hlx:=hfx.log
 have hmx:r.hard.log.length≤maxLen:=zak (by omega)
 have ka:=zw8 r hfx out (mkM m 6) hfr hix hmm
 rw [List.append_nil]
 refine za1 Tryz.func52 ?_;conv=>whnf
 (first | refine tYes ?_ | refine tNo ?_)
 conv=>whnf
 (first | refine tYes ?_ | refine tNo ?_)
 conv=>whnf
 refine ⟨⟨by decide,hfr.1⟩,?_⟩
 conv=>whnf
 ((refine Exists.intro (some ([(1000000,1000000)],[(1000000,1000000),(1000001,1000001),(1000002,1000002),(1000003,1000003)],[])) ?_);(conv=>whnf);first | ((with_reducible refine zam (ka) ?_);conv=>whnf))
 (refine zae [(1000000,1000000),(1000001,1000001),(1000002,1000002),(1000003,1000003)] [] ?_;(conv=>whnf);exact wkD)
set_option maxHeartbeats 8000000 in
theorem zu7 (r : Rft) (hf : Fit r) (out : List (List PV)) (ho : out.length ≤ 4000000) (m : Mg) (hfr : 0 ≤ m.frm ∧ m.frm < 7) (hmt : m.term ≤ 1099511627776) (hgt : r.hard.term < m.term) (hix : 0 ≤ m.index ∧ m.index ≤ 1099511627776) (hmm : ∀ i, i < 7 → 0 ≤ (fallR r m.term (-1)).mtch.at i ∧ (fallR r m.term (-1)).mtch.at i ≤ lastI (fallR r m.term (-1)).hard) :
    CtrE Tryz.prog 52 [.pt 1000000 0,.ag (mkM m 6).enc] [(1000000,repI r out)] (obI r out) (iv 0) [(1000000,repX (zcj (fallR r m.term (-1)) (mkM m 6)) (out++([]:List (List PV))))] obX:=by
 have hl0:=hf.log
 have hT0:=hf.term
 have kf:=zdu r (zak (by omega)) out m.term (-1)
 have hfx:=zb3 hf (t:=m.term) (by omega) (-1)
 have hxt:=zbq hgt (-1)
 generalize fallR r m.term (-1)=x at *
 have hx0:¬ (mkM m 6).term < x.hard.term:=by show ¬ m.term < x.hard.term;omega
 have hg1:r.hard.term < (mkM m 6).term:=hgt
 have hlx:=hfx.log
 have hmx:x.hard.log.length≤maxLen:=zak (by omega)
 have ka:=zw8 x hfx out (mkM m 6) hfr hix hmm
 rw [List.append_nil]
 refine za1 Tryz.func52 ?_;conv=>whnf
 (first | refine tYes ?_ | refine tNo ?_)
 conv=>whnf
 ((refine Exists.intro (some ([(1000000,1000000)],[(1000000,1000000),(1000001,1000001),(1000002,1000002),(1000003,1000003)],[(2,3000)])) ?_);(conv=>whnf);first | ((with_reducible refine zam (kf) ?_);conv=>whnf))
 (first | refine tYes ?_ | refine tNo ?_)
 conv=>whnf
 refine ⟨⟨by decide,hfr.1⟩,?_⟩
 conv=>whnf
 ((refine Exists.intro (some ([(1000000,1000000)],[(1000000,1000000),(1000001,1000001),(1000002,3000),(1000003,1000003)],[])) ?_);(conv=>whnf);first | ((with_reducible refine zam (ka) ?_);conv=>whnf))
 (refine zae [(1000000,1000000),(1000001,1000001),(1000002,1000002),(1000003,1000003)] [] ?_;(conv=>whnf);exact wkD)
set_option maxHeartbeats 8000000 in
theorem zzo (r : Rft) (hf : Fit r) (out : List (List PV)) (ho : out.length ≤ 4000000) (m : Mg) (hfr : 0 ≤ m.frm ∧ m.frm < 7) (hmt : m.term ≤ 1099511627776) (heq : m.term = r.hard.term) :
    CtrE Tryz.prog 52 [.pt 1000000 0,.ag (mkM m 8).enc] [(1000000,repI r out)] (obI r out) (iv 0) [(1000000,repX (k8R r (mkM m 8)) (out++k8O r (mkM m 8)))] obX:=by
 have hl0:=hf.log
 have hT0:=hf.term
 have hfx:=hf
 have hx0:¬ (mkM m 8).term < r.hard.term:=by show ¬ m.term < r.hard.term;omega
 have hg1:¬ r.hard.term < (mkM m 8).term:=by show ¬ r.hard.term < m.term;omega
 have hlx:=hfx.log
 have hmx:r.hard.log.length≤maxLen:=zak (by omega)
 have kv:=zlu r hmx
 have kst:=zi6 r hfx out ho
 refine za1 Tryz.func52 ?_;conv=>whnf
 (first | refine tYes ?_ | refine tNo ?_)
 conv=>whnf
 (first | refine tYes ?_ | refine tNo ?_)
 conv=>whnf
 refine ⟨⟨by decide,hfr.1⟩,?_⟩
 conv=>whnf
 unfold k8R k8O
 ((try (refine Exists.intro none ?_;conv=>whnf));refine tOwn0 ?_;conv=>whnf)
 ((try (refine Exists.intro none ?_;conv=>whnf));refine tOwn0 ?_;conv=>whnf)
 ((try (refine Exists.intro none ?_;conv=>whnf));refine tOwn0 ?_;conv=>whnf)
 cases hq:zcf r with
 | true =>
  rw [show bitB (bor (zac r).full (zac r).wit) r.id=true from hq] at kv
  rw [if_pos rfl,if_pos rfl]
  ((try ((refine Exists.intro none ?_);(conv=>whnf)));first | (refine zai (kv) (by simp only [List.drop_zero,List.take_length]) ?_;conv=>whnf))
  (refine tSp (fun h=>?_) (fun h=>?_)<;>conv=>whnf)
  ·have h:r.lead=m.frm:=h
   rw [if_pos h,if_pos h]
   ((refine Exists.intro (some ([(1000000,1000000)],[(1000000,1000000),(1000001,1000001),(1000002,1000002),(1000003,1000003)],[])) ?_);(conv=>whnf);first | ((with_reducible refine zam (kst) ?_);conv=>whnf))
   (refine zae [(1000000,1000000),(1000001,1000001),(1000002,1000002),(1000003,1000003)] [] ?_;(conv=>whnf);exact wkD)
  ·have h:¬ r.lead=m.frm:=h
   rw [if_neg h,if_neg h,List.append_nil]
   (refine zad 1000000 9 1000000 _ _ rfl rfl rfl rfl ?_;refine zad 1000000 10 1000001 _ _ rfl rfl rfl rfl ?_;refine zad 1000000 39 1000002 _ _ rfl rfl rfl rfl ?_;refine zad 1000000 40 1000003 _ _ rfl rfl rfl rfl ?_;refine zae [(1000000,1000000),(1000001,1000001),(1000002,1000002),(1000003,1000003)] [] ?_;(conv=>whnf);exact wkD)
 | false =>
  rw [show bitB (bor (zac r).full (zac r).wit) r.id=false from hq] at kv
  rw [if_neg (show ¬ false=true by decide),if_neg (show ¬ false=true by decide),List.append_nil]
  ((try ((refine Exists.intro none ?_);(conv=>whnf)));first | (refine zai (kv) (by simp only [List.drop_zero,List.take_length]) ?_;conv=>whnf))
  (refine zad 1000000 9 1000000 _ _ rfl rfl rfl rfl ?_;refine zad 1000000 10 1000001 _ _ rfl rfl rfl rfl ?_;refine zad 1000000 39 1000002 _ _ rfl rfl rfl rfl ?_;refine zad 1000000 40 1000003 _ _ rfl rfl rfl rfl ?_;refine zae [(1000000,1000000),(1000001,1000001),(1000002,1000002),(1000003,1000003)] [] ?_;(conv=>whnf);exact wkD)
set_option maxHeartbeats 8000000 in
theorem zwj (r : Rft) (hf : Fit r) (out : List (List PV)) (ho : out.length ≤ 4000000) (m : Mg) (hfr : 0 ≤ m.frm ∧ m.frm < 7) (hmt : m.term ≤ 1099511627776) (hgt : r.hard.term < m.term) :
    CtrE Tryz.prog 52 [.pt 1000000 0,.ag (mkM m 8).enc] [(1000000,repI r out)] (obI r out) (iv 0) [(1000000,repX (k8R (fallR r m.term (-1)) (mkM m 8)) (out++k8O (fallR r m.term (-1)) (mkM m 8)))] obX:=by
 have hl0:=hf.log
 have hT0:=hf.term
 have kf:=zdu r (zak (by omega)) out m.term (-1)
 have hfx:=zb3 hf (t:=m.term) (by omega) (-1)
 have hxt:=zbq hgt (-1)
 generalize fallR r m.term (-1)=x at *
 have hx0:¬ (mkM m 8).term < x.hard.term:=by show ¬ m.term < x.hard.term;omega
 have hg1:r.hard.term < (mkM m 8).term:=hgt
 have hlx:=hfx.log
 have hmx:x.hard.log.length≤maxLen:=zak (by omega)
 have kv:=zlu x hmx
 have kst:=zi6 x hfx out ho
 refine za1 Tryz.func52 ?_;conv=>whnf
 (first | refine tYes ?_ | refine tNo ?_)
 conv=>whnf
 ((refine Exists.intro (some ([(1000000,1000000)],[(1000000,1000000),(1000001,1000001),(1000002,1000002),(1000003,1000003)],[(2,3000)])) ?_);(conv=>whnf);first | ((with_reducible refine zam (kf) ?_);conv=>whnf))
 (first | refine tYes ?_ | refine tNo ?_)
 conv=>whnf
 refine ⟨⟨by decide,hfr.1⟩,?_⟩
 conv=>whnf
 unfold k8R k8O
 ((try (refine Exists.intro none ?_;conv=>whnf));refine tOwn0 ?_;conv=>whnf)
 ((try (refine Exists.intro none ?_;conv=>whnf));refine tOwn0 ?_;conv=>whnf)
 ((try (refine Exists.intro none ?_;conv=>whnf));refine tOwn0 ?_;conv=>whnf)
 cases hq:zcf x with
 | true =>
  rw [show bitB (bor (zac x).full (zac x).wit) x.id=true from hq] at kv
  rw [if_pos rfl,if_pos rfl]
  ((try ((refine Exists.intro none ?_);(conv=>whnf)));first | (refine zai (kv) (by simp only [List.drop_zero,List.take_length]) ?_;conv=>whnf))
  (refine tSp (fun h=>?_) (fun h=>?_)<;>conv=>whnf)
  ·have h:x.lead=m.frm:=h
   rw [if_pos h,if_pos h]
   ((refine Exists.intro (some ([(1000000,1000000)],[(1000000,1000000),(1000001,1000001),(1000002,3000),(1000003,1000003)],[])) ?_);(conv=>whnf);first | ((with_reducible refine zam (kst) ?_);conv=>whnf))
   (refine zae [(1000000,1000000),(1000001,1000001),(1000002,1000002),(1000003,1000003)] [] ?_;(conv=>whnf);exact wkD)
  ·have h:¬ x.lead=m.frm:=h
   rw [if_neg h,if_neg h,List.append_nil]
   (refine zad 1000000 9 1000000 _ _ rfl rfl rfl rfl ?_;refine zad 1000000 10 1000001 _ _ rfl rfl rfl rfl ?_;refine zad 1000000 39 3000 _ _ rfl rfl rfl rfl ?_;refine zad 1000000 40 1000003 _ _ rfl rfl rfl rfl ?_;refine zae [(1000000,1000000),(1000001,1000001),(1000002,1000002),(1000003,1000003)] [] ?_;(conv=>whnf);exact wkD)
 | false =>
  rw [show bitB (bor (zac x).full (zac x).wit) x.id=false from hq] at kv
  rw [if_neg (show ¬ false=true by decide),if_neg (show ¬ false=true by decide),List.append_nil]
  ((try ((refine Exists.intro none ?_);(conv=>whnf)));first | (refine zai (kv) (by simp only [List.drop_zero,List.take_length]) ?_;conv=>whnf))
  (refine zad 1000000 9 1000000 _ _ rfl rfl rfl rfl ?_;refine zad 1000000 10 1000001 _ _ rfl rfl rfl rfl ?_;refine zad 1000000 39 3000 _ _ rfl rfl rfl rfl ?_;refine zad 1000000 40 1000003 _ _ rfl rfl rfl rfl ?_;refine zae [(1000000,1000000),(1000001,1000001),(1000002,1000002),(1000003,1000003)] [] ?_;(conv=>whnf);exact wkD)
abbrev hc (c:Conf):Hrd:=⟨0,-1,0,0,c,[],[]⟩
abbrev ak (c:Conf) (id role votes wait quiet:Int):Rft:=⟨id,hc c,0,role,-1,wait,quiet,votes,0,zA,zA,zA,[]⟩
theorem zzh (c:Conf) (id ro vo w q:Int):zac (ak c id ro vo w q)=c:=rfl
theorem zqk (c:Conf) (id ro vo w q:Int):zcf (ak c id ro vo w q)=bitB (bor c.full c.wit) id:=rfl
theorem tick_w {c:Conf}{id:Int} (hv:bitB (bor c.full c.wit) id=true) (ro vo:Int) {w:Int} (hw:1 < w) (q:Int):tickR (ak c id ro vo w q)=ak c id ro vo (w - 1) (farM (q+1))∧tickO (ak c id ro vo w q)=[]:=by
 have hv:¬ zcf (ak c id ro vo w q)=false:=by rw [zqk,hv];decide
 have hz:zeroM (w - 1)=w - 1:=if_neg (by omega)
 have hw:0 < zeroM ((ak c id ro vo w q).wait - 1):=by show 0 < zeroM (w - 1);rw [hz];omega
 have e:tw (ak c id ro vo w q)=ak c id ro vo (zeroM (w - 1)) (farM (q+1)):=rfl
 unfold tickR tickO
 rw [if_neg hv,if_pos hw,if_neg hv,if_pos hw,e,hz]
 exact ⟨rfl,rfl⟩
theorem ta_eq (c:Conf) (id ro vo:Int) (q:Int):taR (ak c id ro vo 1 q)=ak c id 1 (shl 1 id) (delay c id) (farM (q+1)):=rfl
theorem zl7 {c:Conf} (hc':confB c=true) {id ro vo w q:Int} (hid:0≤id∧id < 7) (hr:0≤ro∧ro≤3) (hn:ro ≠ 3) (hvo:0≤vo∧vo≤127) (hw:0≤w∧w≤100) (hq:0≤q∧q≤1099511627776):zcw (ak c id ro vo w q)=true:=by
 have h1:hardB (hc c)=true:=by
  unfold hardB
  rw [show (hc c).baseConf=c from rfl,hc']
  have hA:HardA (hc c):=⟨by show (0:Int)≤0∧(0:Int)≤1099511627776;decide,by show (-1:Int)≤-1∧(-1:Int)≤6;decide,by show (0:Int)≤0∧(0:Int)≤1099511627776;decide,by show (0:Int)≤0∧(0:Int)≤0;decide,by show (0:Int)=0 ↔ (0:Int)=0;decide⟩
  rw [zec hA];rfl
 have h2:inR 6 id=true:=zaf (by omega)
 have h3:inR 3 ro=true:=zaf hr
 have h4:inR 100 w=true:=zaf hw
 have h5:inR far q=true:=zaf hq
 have h6:inR 127 vo=true:=zaf hvo
 have h7:lastI (hc c)=0:=rfl
 have h8:rdsB (ak c id ro vo w q)=true:=by
  unfold rdsB
  rw [if_neg (by show ¬ 4 < 0;omega),if_neg (by show ¬ (0 < 0∧_);omega)];rfl
 have hz:arrR far zA=true:=by decide
 have hz0:arrR (lastI (hc c)) zA=true:=by rw [h7];decide
 unfold zcw
 simp only [Bool.and_eq_true,decide_eq_true_eq]
 exact ⟨h1,h2,by show (0:Int)≤0;decide,by show (0:Int)≤lastI (hc c);rw [h7];decide,h3,by show (-1:Int)≤-1;decide,by show (-1:Int) < 7;decide,h4,⟨h5,by show inR far 0=true;decide⟩,h6,hz,hz0,hz,h8,by rw [if_neg (by exact hn)]⟩
abbrev c18:Conf:=⟨1,0,0,0⟩
theorem v18:bitB (bor c18.full c18.wit) 0=true:=by simp only [bitB,bor,band,zey,zhf];kernel_rfl
theorem d18:delay c18 0=6:=by simp only [delay,bitB,band,zey];kernel_rfl
theorem k18:confB c18=true:=by simp only [confB,bor,band,zey,zhf];kernel_rfl
theorem q18:zbb c18 (shl 1 0)=true:=by
 unfold zbb
 have e1:count (bor c18.full c18.wit)=1:=by simp only [count,cnt,bor,zhf];kernel_rfl
 have e2:count (band (bor c18.full c18.wit) (shl 1 0))=1:=by simp only [count,cnt,bor,band,shl,zhf,zey];kernel_rfl
 rw [e1,e2];rfl
theorem s18 (c:Conf) (id ro vo w q:Int):zac (stdR (ak c id ro vo w q))=c:=rfl
theorem t18 (q:Int):tickR (ak c18 0 0 0 1 q)=leadR (stdR (taR (ak c18 0 0 0 1 q))):=by
 have hv:¬ zcf (ak c18 0 0 0 1 q)=false:=by rw [zqk,v18];decide
 have hw:¬ 0 < zeroM ((ak c18 0 0 0 1 q).wait - 1):=by show ¬ 0 < zeroM (1 - 1);decide
 have hq:zbb (zac (taR (ak c18 0 0 0 1 q))) (shl 1 (ak c18 0 0 0 1 q).id)=true:=by
  rw [ta_eq,zzh];exact q18
 unfold tickR
 rw [if_neg hv,if_neg hw,if_pos hq]
 unfold ze3
 rw [if_neg (by rw [ta_eq];show ¬ (0:Int)=1099511627776;decide),if_pos (by rw [ta_eq,s18];exact q18)]
theorem l18 (q:Int):(leadR (stdR (taR (ak c18 0 0 0 1 q)))).commit=1:=by
 show zdh (logR (led0 (stdR (taR (ak c18 0 0 0 1 q)))) (et 1)) 0 (zA.put 0 (lastI (logR (led0 (stdR (taR (ak c18 0 0 0 1 q)))) (et 1))))=1
 have eh:logR (led0 (stdR (taR (ak c18 0 0 0 1 q)))) (et 1)=⟨1,0,0,0,c18,[],[et 1]⟩:=rfl
 rw [eh]
 have el:lastI ⟨1,0,0,0,c18,[],[et 1]⟩=1:=by kernel_rfl
 rw [el]
 show down (hit ⟨1,0,0,0,c18,[],[et 1]⟩ ⟨1,0,0,0,0,0,0⟩) 0 0 (1+1)=1
 have e:haveB ⟨1,0,0,0,0,0,0⟩ 1 7=bor 0 (shl 1 0):=by kernel_rfl
 have hh:hit ⟨1,0,0,0,c18,[],[et 1]⟩ ⟨1,0,0,0,0,0,0⟩ 1=true:=by
  unfold hit
  rw [show fits ⟨1,0,0,0,c18,[],[et 1]⟩ 1 1=true from by kernel_rfl,e,show (force ⟨1,0,0,0,c18,[],[et 1]⟩ (lastI ⟨1,0,0,0,c18,[],[et 1]⟩)).1=c18 from by kernel_rfl]
  unfold zbb
  have e1:count (bor c18.full c18.wit)=1:=by simp only [count,cnt,bor,zhf];kernel_rfl
  have e2:count (band (bor c18.full c18.wit) (bor 0 (shl 1 0)))=1:=by simp only [count,cnt,bor,band,shl,zhf,zey];kernel_rfl
  rw [e1,e2];rfl
 rw [down,if_pos (by decide),if_pos (by exact hh)];rfl
theorem kt18 (w q:Int) (hw:1 < w∧w≤100) (hq:0≤q∧q≤1000):Ctr Tryz.prog 12 [.ag (ak c18 0 0 0 w q).enc] (.tu [.ag (ak c18 0 0 0 (w - 1) (q+1)).enc,.sl 16 [],iv 0]) []:=by
 have k:=zus (ak c18 0 0 0 w q) (zl7 k18 (by decide) (by decide) (by decide) (by decide) (by omega) (by omega)) (by show 0 < 4294967;decide) (by show (0:Int) ≠ 3;decide)
 obtain ⟨e1,e2⟩:=tick_w (w:=w) v18 0 0 hw.1 q
 rw [e1,e2,show farM (q+1)=q+1 from if_neg (by omega)] at k
 exact k
theorem Lx {L:Rft}{H:Hrd} (h1:L.role=3) (h2:L.commit=1) (h3:L.hard=H):L={ L with role:=3,commit:=1,hard:=H }:=by
 cases L;simp_all
set_option maxHeartbeats 4000000 in
theorem zuy:Ctr Tryz.prog 15 [] (bv true) []:=by
 have kb:=zqa c18
 have hh:hardB (hc c18)=true:=(zh4 (zl7 k18 (id:=0) (ro:=0) (vo:=0) (w:=6) (q:=0) (by decide) (by decide) (by decide) (by decide) (by decide) (by decide))).hard
 have kn:=c_New 0 (by decide) (hc c18) (by show 0≤4294967;decide) hh
 rw [show newR 0 (hc c18)=ak c18 0 0 0 6 0 by show ak c18 0 0 0 (delay c18 0) 0=_;rw [d18]] at kn
 have k6:Ctr Tryz.prog 12 [.ag (ak c18 0 0 0 6 0).enc] (.tu [.ag (ak c18 0 0 0 5 1).enc,.sl 16 [],iv 0]) []:=kt18 6 0 (by decide) (by decide)
 have k5:Ctr Tryz.prog 12 [.ag (ak c18 0 0 0 5 1).enc] (.tu [.ag (ak c18 0 0 0 4 2).enc,.sl 16 [],iv 0]) []:=kt18 5 1 (by decide) (by decide)
 have k4:Ctr Tryz.prog 12 [.ag (ak c18 0 0 0 4 2).enc] (.tu [.ag (ak c18 0 0 0 3 3).enc,.sl 16 [],iv 0]) []:=kt18 4 2 (by decide) (by decide)
 have k3:Ctr Tryz.prog 12 [.ag (ak c18 0 0 0 3 3).enc] (.tu [.ag (ak c18 0 0 0 2 4).enc,.sl 16 [],iv 0]) []:=kt18 3 3 (by decide) (by decide)
 have k2:Ctr Tryz.prog 12 [.ag (ak c18 0 0 0 2 4).enc] (.tu [.ag (ak c18 0 0 0 1 5).enc,.sl 16 [],iv 0]) []:=kt18 2 4 (by decide) (by decide)
 have k1:=zus (ak c18 0 0 0 1 5) (zl7 k18 (by decide) (by decide) (by decide) (by decide) (by omega) (by omega)) (by show 0 < 4294967;decide) (by show (0:Int) ≠ 3;decide)
 rw [t18,Lx (L:=leadR (stdR (taR (ak c18 0 0 0 1 5)))) (H:=⟨1,0,0,0,c18,[],[et 1]⟩) rfl (l18 5) rfl] at k1
 generalize leadR (stdR (taR (ak c18 0 0 0 1 5)))=L at k1
 generalize tickO (ak c18 0 0 0 1 5)=O at k1
 refine sBody Tryz.func15 ?_;conv=>whnf
 ((try (refine Exists.intro none ?_;conv=>whnf));(with_reducible refine zaa (kb) ?_);conv=>whnf)
 ((try ((refine Exists.intro none ?_);(conv=>whnf)));refine zaw (kn) (by (repeat' (first | exact zav | exact zau | refine zar ?_ ?_ | refine zaq ?_ ?_ | exact SubV.refl _ | exact za2 | (with_reducible exact za7 rfl) | refine za6 ?_ | refine za8 ?_ | refine za5 ?_))) ?_;conv=>whnf)
 (refine tNew0 ?_;conv=>whnf)
 refine zcd mixed (by kernel_rfl) 8 ?_
 conv=>whnf
 ((try (refine Exists.intro none ?_;conv=>whnf));(with_reducible refine zaa (k6) ?_);conv=>whnf)
 (refine tNew0 ?_;conv=>whnf)
 ((try (refine Exists.intro none ?_;conv=>whnf));(with_reducible refine zaa (k5) ?_);conv=>whnf)
 (refine tNew0 ?_;conv=>whnf)
 ((try (refine Exists.intro none ?_;conv=>whnf));(with_reducible refine zaa (k4) ?_);conv=>whnf)
 (refine tNew0 ?_;conv=>whnf)
 ((try (refine Exists.intro none ?_;conv=>whnf));(with_reducible refine zaa (k3) ?_);conv=>whnf)
 (refine tNew0 ?_;conv=>whnf)
 ((try (refine Exists.intro none ?_;conv=>whnf));(with_reducible refine zaa (k2) ?_);conv=>whnf)
 (refine tNew0 ?_;conv=>whnf)
 ((try (refine Exists.intro none ?_;conv=>whnf));(with_reducible refine zaa (k1) ?_);conv=>whnf)
 (refine tNew0 ?_;conv=>whnf)
 exact zab rfl rfl
theorem ztp {n:Nat} (hn:n < 7) (b:Int):bitB b n=tb b n:=by
 rw [← zhw (by simp [zap];omega),zcv b n (by omega)]
theorem shl_fit {n:Nat} (hn:n < 7):0≤shl 1 n∧shl 1 n≤127:=by
 rw [zgd n (by omega)]
 rcases (by omega:n=0∨n=1∨n=2∨n=3∨n=4∨n=5∨n=6) with rfl | rfl | rfl | rfl | rfl | rfl | rfl<;>decide
noncomputable def zeg (r:Rft) (m:Mg):Bool:=inR 6 m.frm && (decide (¬ m.frm=r.id) && (decide (m.to=r.id) && (decide (1≤m.kind) && (decide (m.kind≤8) && ((inR far m.term && inR far m.logTerm) && (inR far m.index && inR far m.round))))))
set_option maxHeartbeats 2000000 in
theorem zpe (r:Rft) (m:Mg):Ctr Tryz.prog 51 [.ag r.enc,.ag m.enc] (bv (zeg r m)) []:=by
 have k1:=zce 6 m.frm
 have k2:=zhz far m.term m.logTerm
 have k3:=zhz far m.index m.round
 unfold zeg
 generalize inR 6 m.frm=b1 at *
 generalize (inR far m.term && inR far m.logTerm)=b2 at *
 generalize (inR far m.index && inR far m.round)=b3 at *
 cases b1 with
 | false =>
  refine sBody Tryz.func51 ?_;conv=>whnf
  ((try ((refine Exists.intro none ?_);(conv=>whnf)));refine zai (k1) (by kernel_rfl) ?_;conv=>whnf)
  exact zab rfl (by simp)
 | true =>
 refine sBody Tryz.func51 ?_;conv=>whnf
 ((try ((refine Exists.intro none ?_);(conv=>whnf)));refine zai (k1) (by kernel_rfl) ?_;conv=>whnf)
 (refine tSp (fun h=>?_) (fun h=>?_)<;>conv=>whnf)
 ·have g1:=h
  clear h
  (refine tSp (fun h=>?_) (fun h=>?_)<;>conv=>whnf)
  ·have g2:=h
   clear h
   (refine tSp (fun h=>?_) (fun h=>?_)<;>conv=>whnf)
   ·have g3:=h
    clear h
    (refine tSp (fun h=>?_) (fun h=>?_)<;>conv=>whnf)
    ·have g4:=h
     clear h
     cases b2 with
     | false =>
      ((try ((refine Exists.intro none ?_);(conv=>whnf)));refine zai (k2) (by kernel_rfl) ?_;conv=>whnf)
      exact zab rfl (by simp [*])
     | true =>
     ((try ((refine Exists.intro none ?_);(conv=>whnf)));refine zai (k2) (by kernel_rfl) ?_;conv=>whnf)
     cases b3 with
     | false =>
      ((try ((refine Exists.intro none ?_);(conv=>whnf)));refine zai (k3) (by kernel_rfl) ?_;conv=>whnf)
      exact zab rfl (by simp [*])
     | true =>
     ((try ((refine Exists.intro none ?_);(conv=>whnf)));refine zai (k3) (by kernel_rfl) ?_;conv=>whnf)
     exact zab rfl (by simp [*])
    ·exact zab rfl (by simp [*])
   ·exact zab rfl (by simp [*])
  ·exact zab rfl (by simp [*])
 ·exact zab rfl (by simp [*])
abbrev rzv:List PV:=[iv 0,iv 0,iv 0,iv 0,iv 0,iv 0,iv 0,iv 0,iv 0,.nl,.nl,iv 0,iv 0,iv 0,iv 0,iv 0,iv 0,iv 0,iv 0,iv 0,iv 0,iv 0,iv 0,iv 0,iv 0,iv 0,iv 0,iv 0,iv 0,iv 0,iv 0,iv 0,iv 0,iv 0,iv 0,iv 0,iv 0,iv 0,iv 0,.nl]
set_option maxHeartbeats 2000000 in
theorem zsu (r:Rft) (m:Mg) (h1:r.hard.snap.length≤4294967296) (h2:r.hard.log.length≤4294967296) (h3:r.reads.length≤4294967296) (hr:zcw r=true) (hm:zeg r m=false):Ctr Tryz.prog 14 [.ag r.enc,.ag m.enc] (.tu [.ag rzv,.nl,iv 1]) []:=by
 have ko:=c_of r h1 h2 h3 hr
 have kr:=zpe r m
 rw [hm] at kr
 refine sBody Tryz.func14 ?_;conv=>whnf
 ((refine Exists.intro (some ([(28,500)],[],[(0,600),(1,601),(2,602),(3,603)])) ?_);(conv=>whnf);first | ((with_reducible refine zam (ko) ?_);conv=>whnf))
 ((try (refine Exists.intro none ?_;conv=>whnf));(with_reducible refine zaa (kr) ?_);conv=>whnf)
 exact zab rfl rfl
set_option maxHeartbeats 2000000 in
theorem zxb (r : Rft) (m : Mg) (h1 : r.hard.snap.length ≤ 4294967296) (h2 : r.hard.log.length ≤ 4294967296) (h3 : r.reads.length ≤ 4294967296) (hr : zcw r = true) (hm : zeg r m = true) (R : Rft) (O : List (List PV))
    (k:CtrE Tryz.prog 52 [.pt 1000000 0,.ag m.enc] [(1000000,repI r [])] (obI r []) (iv 0) [(1000000,repX R ([]++O))] obX):Ctr Tryz.prog 14 [.ag r.enc,.ag m.enc] (.tu [.ag R.enc,.sl 16 O,iv 0]) []:=by
 have ko:=c_of r h1 h2 h3 hr
 have kr:=zpe r m
 rw [hm] at kr
 refine sBody Tryz.func14 ?_;conv=>whnf
 ((refine Exists.intro (some ([(28,500)],[],[(0,600),(1,601),(2,602),(3,603)])) ?_);(conv=>whnf);first | ((with_reducible refine zam (ko) ?_);conv=>whnf))
 ((try (refine Exists.intro none ?_;conv=>whnf));(with_reducible refine zaa (kr) ?_);conv=>whnf)
 ((refine Exists.intro (some ([(1000000,500)],[(1000000,600),(1000001,601),(1000002,602),(1000003,603)],[])) ?_);(conv=>whnf);refine zax (k) (by kernel_rfl) (by kernel_rfl) (by kernel_rfl) ?_;conv=>whnf)
 exact zab rfl rfl
set_option maxHeartbeats 2000000 in
theorem zrw (r : Rft) (m : Mg) (h1 : r.hard.snap.length ≤ 4294967296) (h2 : r.hard.log.length ≤ 4294967296) (h3 : r.reads.length ≤ 4294967296) (hr : zcw r = true) (hm : zeg r m = true) (R : Rft) (O : List (List PV)) (E : Int) (hE : ¬ E = 0)
    (k:CtrE Tryz.prog 52 [.pt 1000000 0,.ag m.enc] [(1000000,repI r [])] (obI r []) (iv E) [(1000000,repX R ([]++O))] obX):Ctr Tryz.prog 14 [.ag r.enc,.ag m.enc] (.tu [.ag rzv,.nl,iv E]) []:=by
 have ko:=c_of r h1 h2 h3 hr
 have kr:=zpe r m
 rw [hm] at kr
 refine sBody Tryz.func14 ?_;conv=>whnf
 ((refine Exists.intro (some ([(28,500)],[],[(0,600),(1,601),(2,602),(3,603)])) ?_);(conv=>whnf);first | ((with_reducible refine zam (ko) ?_);conv=>whnf))
 ((try (refine Exists.intro none ?_;conv=>whnf));(with_reducible refine zaa (kr) ?_);conv=>whnf)
 ((refine Exists.intro (some ([(1000000,500)],[(1000000,600),(1000001,601),(1000002,602),(1000003,603)],[])) ?_);(conv=>whnf);refine zax (k) (by kernel_rfl) (by kernel_rfl) (by kernel_rfl) ?_;conv=>whnf)
 (refine tSp (fun h=>?_) (fun h=>?_)<;>conv=>whnf)
 ·exact zab rfl rfl
 ·exact absurd (by first | exact h | (simpa using h)) hE
end Go.Proofs
