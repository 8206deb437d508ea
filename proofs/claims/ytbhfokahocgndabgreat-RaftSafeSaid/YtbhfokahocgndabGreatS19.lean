import Derived.Test.YtbhfokahocgndabGreatPvQ3
import Derived.Test.YtbhfokahocgndabGreatC1
import Derived.Test.YtbhfokahocgndabGreatS1
/- Contracts of functions: the page takes a message: entries. (genS14.py prints this) -/
set_option linter.unusedSimpArgs false
set_option linter.unusedVariables false
set_option maxHeartbeats 8000000
namespace Go.Proofs
open Go.Pv
set_option maxRecDepth 100000
theorem zzd (r:Rft) (hf:Fit r) (m:Mg) (hM:RightM r m) (hL:0≤m.logTerm∧m.logTerm≤far) (hR:0≤m.round∧m.round≤far) (heq:m.term=r.hard.term) (hen:m.entries.length≤4294967) (hgl:growE r.hard r.commit (mkM m 5)=0→(growO r.hard r.commit (mkM m 5)).h.log.length≤maxLen) (he:appE r (mkM m 5)=0):Ctr Tryz.prog 40 [.ag r.enc,.ag (mkM m 5).enc] (.tu [.ag (appR r (mkM m 5)).enc,.sl 16 (appO r (mkM m 5)),iv 0]) []:=by
 obtain ⟨k1,k3,k4,k5,k6,kt,hne,hto⟩:=za6 hf hM hL hR
 have hl0:=hf.log
 have hT0:=hf.term
 have k2:Ctr Tryz.prog 88 [iv 5,iv 1,iv 8] (bv true) []:=by
  have:=zai 5 1 8
  rwa [decide_eq_true (show 1≤(5:Int)∧(5:Int)≤8 from by decide)] at this
 have hfx:=hf
 have hxid:r.id=r.id:=rfl
 have hg1:¬ m.term > r.hard.term:=by omega
 have hx0:¬ m.term < r.hard.term:=by omega
 have hlx:=hfx.log
 have hTx:=hfx.term
 have hmx:r.hard.log.length≤maxLen:=zad (by omega)
 unfold appE at he
 unfold appR appO
 refine sBody Tryz.func40 ?_;conv=>whnf
 refine tC k1 ?_
 refine tK ?_
 refine tK ?_
 refine tC k2 ?_
 refine tC k3 ?_
 refine tC k4 ?_
 refine tC k5 ?_
 refine tC k6 ?_
 refine tC kt ?_
 refine tN0 ?_
 refine tK ?_
 refine tK ?_
 by_cases hro:r.role=3
 ·rw [if_pos hro,if_pos hro]
  refine tK ?_
  exact eF1
 ·rw [if_neg hro] at he
  rw [if_neg hro,if_neg hro,if_pos he,if_pos he]
  have kfo:=znm r hfx (mkM m 5) rfl hen hgl he
  refine tK ?_
  refine tER ([(9990,2)],[],[]) kfo ?_
  exact eF2
theorem zvy (r:Rft) (hf:Fit r) (m:Mg) (hM:RightM r m) (hL:0≤m.logTerm∧m.logTerm≤far) (hR:0≤m.round∧m.round≤far) (hgt:r.hard.term < m.term) (hen:m.entries.length≤4294967) (hgl:growE (fallR r m.term (-1)).hard (fallR r m.term (-1)).commit (mkM m 5)=0→(growO (fallR r m.term (-1)).hard (fallR r m.term (-1)).commit (mkM m 5)).h.log.length≤maxLen) (he:appE (fallR r m.term (-1)) (mkM m 5)=0):Ctr Tryz.prog 40 [.ag r.enc,.ag (mkM m 5).enc] (.tu [.ag (appR (fallR r m.term (-1)) (mkM m 5)).enc,.sl 16 (appO (fallR r m.term (-1)) (mkM m 5)),iv 0]) []:=by
 obtain ⟨k1,k3,k4,k5,k6,kt,hne,hto⟩:=za6 hf hM hL hR
 have hl0:=hf.log
 have hT0:=hf.term
 have k2:Ctr Tryz.prog 88 [iv 5,iv 1,iv 8] (bv true) []:=by
  have:=zai 5 1 8
  rwa [decide_eq_true (show 1≤(5:Int)∧(5:Int)≤8 from by decide)] at this
 have kf:=zcq r (zad (by omega)) m.term (-1)
 have hfx:=zbw hf (t:=m.term) (by have:=hM.term;omega) (-1)
 have hxt:=zbb hgt (-1)
 have hxid:(fallR r m.term (-1)).id=r.id:=rfl
 generalize fallR r m.term (-1)=x at *
 have hg1:m.term > r.hard.term:=hgt
 have hx0:¬ m.term < x.hard.term:=by omega
 have hlx:=hfx.log
 have hTx:=hfx.term
 have hmx:x.hard.log.length≤maxLen:=zad (by omega)
 unfold appE at he
 unfold appR appO
 refine sBody Tryz.func40 ?_;conv=>whnf
 refine tC k1 ?_
 refine tK ?_
 refine tK ?_
 refine tC k2 ?_
 refine tC k3 ?_
 refine tC k4 ?_
 refine tC k5 ?_
 refine tC k6 ?_
 refine tC kt ?_
 refine tN0 ?_
 refine tK ?_
 refine tER ([(9990,2)],[],[]) kf ?_
 refine tK ?_
 by_cases hro:x.role=3
 ·rw [if_pos hro,if_pos hro]
  refine tK ?_
  exact eF1
 ·rw [if_neg hro] at he
  rw [if_neg hro,if_neg hro,if_pos he,if_pos he]
  have kfo:=znm x hfx (mkM m 5) rfl hen hgl he
  refine tK ?_
  refine tER ([(9990,2)],[],[]) kfo ?_
  exact eF2
theorem zww (r:Rft) (hf:Fit r) (m:Mg) (hM:RightM r m) (hL:0≤m.logTerm∧m.logTerm≤far) (hR:0≤m.round∧m.round≤far) (heq:m.term=r.hard.term) (hen:m.entries.length≤4294967) (hgl:growE r.hard r.commit (mkM m 5)=0→(growO r.hard r.commit (mkM m 5)).h.log.length≤maxLen) (he:¬ appE r (mkM m 5)=0):Ctr Tryz.prog 40 [.ag r.enc,.ag (mkM m 5).enc] (.tu [.ag rzv,.nl,iv (appE r (mkM m 5))]) []:=by
 obtain ⟨k1,k3,k4,k5,k6,kt,hne,hto⟩:=za6 hf hM hL hR
 have hl0:=hf.log
 have hT0:=hf.term
 have k2:Ctr Tryz.prog 88 [iv 5,iv 1,iv 8] (bv true) []:=by
  have:=zai 5 1 8
  rwa [decide_eq_true (show 1≤(5:Int)∧(5:Int)≤8 from by decide)] at this
 have hfx:=hf
 have hxid:r.id=r.id:=rfl
 have hg1:¬ m.term > r.hard.term:=by omega
 have hx0:¬ m.term < r.hard.term:=by omega
 have hlx:=hfx.log
 have hTx:=hfx.term
 have hmx:r.hard.log.length≤maxLen:=zad (by omega)
 unfold appE at *
 refine sBody Tryz.func40 ?_;conv=>whnf
 refine tC k1 ?_
 refine tK ?_
 refine tK ?_
 refine tC k2 ?_
 refine tC k3 ?_
 refine tC k4 ?_
 refine tC k5 ?_
 refine tC k6 ?_
 refine tC kt ?_
 refine tN0 ?_
 refine tK ?_
 refine tK ?_
 by_cases hro:r.role=3
 ·rw [if_pos hro] at he
  exact absurd rfl he
 ·rw [if_neg hro] at he ⊢
  have kfo:=zlx r hfx (mkM m 5) rfl hen he
  refine tK ?_
  refine tER ([(9990,2)],[],[]) kfo ?_
  refine tS ?_ ?_<;>intro h
  ·exact za7 [] (by intro q hq;cases hq) (zat ⟨zao agD,zae _ rfl,zae _ rfl,rfl⟩)
  ·exact absurd (by first | exact h | (simpa using h)) he
theorem zrg (r:Rft) (hf:Fit r) (m:Mg) (hM:RightM r m) (hL:0≤m.logTerm∧m.logTerm≤far) (hR:0≤m.round∧m.round≤far) (hgt:r.hard.term < m.term) (hen:m.entries.length≤4294967) (hgl:growE (fallR r m.term (-1)).hard (fallR r m.term (-1)).commit (mkM m 5)=0→(growO (fallR r m.term (-1)).hard (fallR r m.term (-1)).commit (mkM m 5)).h.log.length≤maxLen) (he:¬ appE (fallR r m.term (-1)) (mkM m 5)=0):Ctr Tryz.prog 40 [.ag r.enc,.ag (mkM m 5).enc] (.tu [.ag rzv,.nl,iv (appE (fallR r m.term (-1)) (mkM m 5))]) []:=by
 obtain ⟨k1,k3,k4,k5,k6,kt,hne,hto⟩:=za6 hf hM hL hR
 have hl0:=hf.log
 have hT0:=hf.term
 have k2:Ctr Tryz.prog 88 [iv 5,iv 1,iv 8] (bv true) []:=by
  have:=zai 5 1 8
  rwa [decide_eq_true (show 1≤(5:Int)∧(5:Int)≤8 from by decide)] at this
 have kf:=zcq r (zad (by omega)) m.term (-1)
 have hfx:=zbw hf (t:=m.term) (by have:=hM.term;omega) (-1)
 have hxt:=zbb hgt (-1)
 have hxid:(fallR r m.term (-1)).id=r.id:=rfl
 generalize fallR r m.term (-1)=x at *
 have hg1:m.term > r.hard.term:=hgt
 have hx0:¬ m.term < x.hard.term:=by omega
 have hlx:=hfx.log
 have hTx:=hfx.term
 have hmx:x.hard.log.length≤maxLen:=zad (by omega)
 unfold appE at *
 refine sBody Tryz.func40 ?_;conv=>whnf
 refine tC k1 ?_
 refine tK ?_
 refine tK ?_
 refine tC k2 ?_
 refine tC k3 ?_
 refine tC k4 ?_
 refine tC k5 ?_
 refine tC k6 ?_
 refine tC kt ?_
 refine tN0 ?_
 refine tK ?_
 refine tER ([(9990,2)],[],[]) kf ?_
 refine tK ?_
 by_cases hro:x.role=3
 ·rw [if_pos hro] at he
  exact absurd rfl he
 ·rw [if_neg hro] at he ⊢
  have kfo:=zlx x hfx (mkM m 5) rfl hen he
  refine tK ?_
  refine tER ([(9990,2)],[],[]) kfo ?_
  refine tS ?_ ?_<;>intro h
  ·exact za7 [] (by intro q hq;cases hq) (zat ⟨zao agD,zae _ rfl,zae _ rfl,rfl⟩)
  ·exact absurd (by first | exact h | (simpa using h)) he
theorem z0g (r:Rft) (hf:Fit r) (m:Mg) (hM:RightM r m) (hL:0≤m.logTerm∧m.logTerm≤far) (hR:0≤m.round∧m.round≤far) (heq:m.term=r.hard.term) (hsn:m.snap.length≤4294967296) (hgl:(insHH r (mkM m 7)).log.length≤maxLen) (he:insE r (mkM m 7)=0):Ctr Tryz.prog 40 [.ag r.enc,.ag (mkM m 7).enc] (.tu [.ag (insR r (mkM m 7)).enc,.sl 16 (insO r (mkM m 7)),iv 0]) []:=by
 obtain ⟨k1,k3,k4,k5,k6,kt,hne,hto⟩:=za6 hf hM hL hR
 have hl0:=hf.log
 have hT0:=hf.term
 have k2:Ctr Tryz.prog 88 [iv 7,iv 1,iv 8] (bv true) []:=by
  have:=zai 7 1 8
  rwa [decide_eq_true (show 1≤(7:Int)∧(7:Int)≤8 from by decide)] at this
 have hfx:=hf
 have hxid:r.id=r.id:=rfl
 have hg1:¬ m.term > r.hard.term:=by omega
 have hx0:¬ m.term < r.hard.term:=by omega
 have hlx:=hfx.log
 have hTx:=hfx.term
 have hmx:r.hard.log.length≤maxLen:=zad (by omega)
 have hix:isI (mkM m 7).index:=by have:=hM.index;show isI m.index;unfold isI;omega
 unfold insE at he
 unfold insR insO
 refine sBody Tryz.func40 ?_;conv=>whnf
 refine tC k1 ?_
 refine tK ?_
 refine tK ?_
 refine tC k2 ?_
 refine tC k3 ?_
 refine tC k4 ?_
 refine tC k5 ?_
 refine tC k6 ?_
 refine tC kt ?_
 refine tN0 ?_
 refine tK ?_
 refine tK ?_
 by_cases hro:r.role=3
 ·rw [if_pos hro,if_pos hro]
  refine tK ?_
  exact eF1
 ·rw [if_neg hro] at he
  rw [if_neg hro,if_neg hro]
  refine tK ?_
  by_cases hlt:r.commit < (mkM m 7).index
  ·rw [if_pos hlt] at he
   rw [if_pos hlt,if_pos hlt,if_pos he,if_pos he]
   have kfo:=znj r hfx (mkM m 7) (by show ¬ (7:Int)=5;decide) hlt hsn hix hgl he
   refine tER ([(9990,2)],[],[]) kfo ?_
   exact eF2
  ·rw [if_neg hlt,if_neg hlt]
   have kfo:=zmp r hfx (mkM m 7) (by show ¬ (7:Int)=5;decide) hlt
   refine tER ([(9990,2)],[],[]) kfo ?_
   exact eF2
theorem zvk (r:Rft) (hf:Fit r) (m:Mg) (hM:RightM r m) (hL:0≤m.logTerm∧m.logTerm≤far) (hR:0≤m.round∧m.round≤far) (hgt:r.hard.term < m.term) (hsn:m.snap.length≤4294967296) (hgl:(insHH (fallR r m.term (-1)) (mkM m 7)).log.length≤maxLen) (he:insE (fallR r m.term (-1)) (mkM m 7)=0):Ctr Tryz.prog 40 [.ag r.enc,.ag (mkM m 7).enc] (.tu [.ag (insR (fallR r m.term (-1)) (mkM m 7)).enc,.sl 16 (insO (fallR r m.term (-1)) (mkM m 7)),iv 0]) []:=by
 obtain ⟨k1,k3,k4,k5,k6,kt,hne,hto⟩:=za6 hf hM hL hR
 have hl0:=hf.log
 have hT0:=hf.term
 have k2:Ctr Tryz.prog 88 [iv 7,iv 1,iv 8] (bv true) []:=by
  have:=zai 7 1 8
  rwa [decide_eq_true (show 1≤(7:Int)∧(7:Int)≤8 from by decide)] at this
 have kf:=zcq r (zad (by omega)) m.term (-1)
 have hfx:=zbw hf (t:=m.term) (by have:=hM.term;omega) (-1)
 have hxt:=zbb hgt (-1)
 have hxid:(fallR r m.term (-1)).id=r.id:=rfl
 generalize fallR r m.term (-1)=x at *
 have hg1:m.term > r.hard.term:=hgt
 have hx0:¬ m.term < x.hard.term:=by omega
 have hlx:=hfx.log
 have hTx:=hfx.term
 have hmx:x.hard.log.length≤maxLen:=zad (by omega)
 have hix:isI (mkM m 7).index:=by have:=hM.index;show isI m.index;unfold isI;omega
 unfold insE at he
 unfold insR insO
 refine sBody Tryz.func40 ?_;conv=>whnf
 refine tC k1 ?_
 refine tK ?_
 refine tK ?_
 refine tC k2 ?_
 refine tC k3 ?_
 refine tC k4 ?_
 refine tC k5 ?_
 refine tC k6 ?_
 refine tC kt ?_
 refine tN0 ?_
 refine tK ?_
 refine tER ([(9990,2)],[],[]) kf ?_
 refine tK ?_
 by_cases hro:x.role=3
 ·rw [if_pos hro,if_pos hro]
  refine tK ?_
  exact eF1
 ·rw [if_neg hro] at he
  rw [if_neg hro,if_neg hro]
  refine tK ?_
  by_cases hlt:x.commit < (mkM m 7).index
  ·rw [if_pos hlt] at he
   rw [if_pos hlt,if_pos hlt,if_pos he,if_pos he]
   have kfo:=znj x hfx (mkM m 7) (by show ¬ (7:Int)=5;decide) hlt hsn hix hgl he
   refine tER ([(9990,2)],[],[]) kfo ?_
   exact eF2
  ·rw [if_neg hlt,if_neg hlt]
   have kfo:=zmp x hfx (mkM m 7) (by show ¬ (7:Int)=5;decide) hlt
   refine tER ([(9990,2)],[],[]) kfo ?_
   exact eF2
theorem zvu (r:Rft) (hf:Fit r) (m:Mg) (hM:RightM r m) (hL:0≤m.logTerm∧m.logTerm≤far) (hR:0≤m.round∧m.round≤far) (heq:m.term=r.hard.term) (hsn:m.snap.length≤4294967296) (hgl:(insHH r (mkM m 7)).log.length≤maxLen) (he:¬ insE r (mkM m 7)=0):Ctr Tryz.prog 40 [.ag r.enc,.ag (mkM m 7).enc] (.tu [.ag rzv,.nl,iv (insE r (mkM m 7))]) []:=by
 obtain ⟨k1,k3,k4,k5,k6,kt,hne,hto⟩:=za6 hf hM hL hR
 have hl0:=hf.log
 have hT0:=hf.term
 have k2:Ctr Tryz.prog 88 [iv 7,iv 1,iv 8] (bv true) []:=by
  have:=zai 7 1 8
  rwa [decide_eq_true (show 1≤(7:Int)∧(7:Int)≤8 from by decide)] at this
 have hfx:=hf
 have hxid:r.id=r.id:=rfl
 have hg1:¬ m.term > r.hard.term:=by omega
 have hx0:¬ m.term < r.hard.term:=by omega
 have hlx:=hfx.log
 have hTx:=hfx.term
 have hmx:r.hard.log.length≤maxLen:=zad (by omega)
 have hix:isI (mkM m 7).index:=by have:=hM.index;show isI m.index;unfold isI;omega
 unfold insE at *
 refine sBody Tryz.func40 ?_;conv=>whnf
 refine tC k1 ?_
 refine tK ?_
 refine tK ?_
 refine tC k2 ?_
 refine tC k3 ?_
 refine tC k4 ?_
 refine tC k5 ?_
 refine tC k6 ?_
 refine tC kt ?_
 refine tN0 ?_
 refine tK ?_
 refine tK ?_
 by_cases hro:r.role=3
 ·rw [if_pos hro] at he
  exact absurd rfl he
 ·rw [if_neg hro] at he ⊢
  by_cases hlt:r.commit < (mkM m 7).index
  ·rw [if_pos hlt] at he ⊢
   have kfo:=zkq r hfx (mkM m 7) (by show ¬ (7:Int)=5;decide) hlt hsn hix he
   refine tK ?_
   refine tER ([(9990,2)],[],[]) kfo ?_
   refine tS ?_ ?_<;>intro h
   ·exact za7 [] (by intro q hq;cases hq) (zat ⟨zao agD,zae _ rfl,zae _ rfl,rfl⟩)
   ·exact absurd (by first | exact h | (simpa using h)) he
  ·rw [if_neg hlt] at he
   exact absurd rfl he
theorem zra (r:Rft) (hf:Fit r) (m:Mg) (hM:RightM r m) (hL:0≤m.logTerm∧m.logTerm≤far) (hR:0≤m.round∧m.round≤far) (hgt:r.hard.term < m.term) (hsn:m.snap.length≤4294967296) (hgl:(insHH (fallR r m.term (-1)) (mkM m 7)).log.length≤maxLen) (he:¬ insE (fallR r m.term (-1)) (mkM m 7)=0):Ctr Tryz.prog 40 [.ag r.enc,.ag (mkM m 7).enc] (.tu [.ag rzv,.nl,iv (insE (fallR r m.term (-1)) (mkM m 7))]) []:=by
 obtain ⟨k1,k3,k4,k5,k6,kt,hne,hto⟩:=za6 hf hM hL hR
 have hl0:=hf.log
 have hT0:=hf.term
 have k2:Ctr Tryz.prog 88 [iv 7,iv 1,iv 8] (bv true) []:=by
  have:=zai 7 1 8
  rwa [decide_eq_true (show 1≤(7:Int)∧(7:Int)≤8 from by decide)] at this
 have kf:=zcq r (zad (by omega)) m.term (-1)
 have hfx:=zbw hf (t:=m.term) (by have:=hM.term;omega) (-1)
 have hxt:=zbb hgt (-1)
 have hxid:(fallR r m.term (-1)).id=r.id:=rfl
 generalize fallR r m.term (-1)=x at *
 have hg1:m.term > r.hard.term:=hgt
 have hx0:¬ m.term < x.hard.term:=by omega
 have hlx:=hfx.log
 have hTx:=hfx.term
 have hmx:x.hard.log.length≤maxLen:=zad (by omega)
 have hix:isI (mkM m 7).index:=by have:=hM.index;show isI m.index;unfold isI;omega
 unfold insE at *
 refine sBody Tryz.func40 ?_;conv=>whnf
 refine tC k1 ?_
 refine tK ?_
 refine tK ?_
 refine tC k2 ?_
 refine tC k3 ?_
 refine tC k4 ?_
 refine tC k5 ?_
 refine tC k6 ?_
 refine tC kt ?_
 refine tN0 ?_
 refine tK ?_
 refine tER ([(9990,2)],[],[]) kf ?_
 refine tK ?_
 by_cases hro:x.role=3
 ·rw [if_pos hro] at he
  exact absurd rfl he
 ·rw [if_neg hro] at he ⊢
  by_cases hlt:x.commit < (mkM m 7).index
  ·rw [if_pos hlt] at he ⊢
   have kfo:=zkq x hfx (mkM m 7) (by show ¬ (7:Int)=5;decide) hlt hsn hix he
   refine tK ?_
   refine tER ([(9990,2)],[],[]) kfo ?_
   refine tS ?_ ?_<;>intro h
   ·exact za7 [] (by intro q hq;cases hq) (zat ⟨zao agD,zae _ rfl,zae _ rfl,rfl⟩)
   ·exact absurd (by first | exact h | (simpa using h)) he
  ·rw [if_neg hlt] at he
   exact absurd rfl he
theorem zyt (r:Rft) (hf:Fit r) (m:Mg) (hM:RightM r m) (hL:0≤m.logTerm∧m.logTerm≤far) (hR:0≤m.round∧m.round≤far) (heq:m.term=r.hard.term) (hmt:∀ i,i < 7→0≤r.mtch.at i∧r.mtch.at i≤lastI r.hard):Ctr Tryz.prog 40 [.ag r.enc,.ag (mkM m 6).enc] (.tu [.ag (zb8 r (mkM m 6)).enc,.sl 16 ([]),iv 0]) []:=by
 obtain ⟨k1,k3,k4,k5,k6,kt,hne,hto⟩:=za6 hf hM hL hR
 have hl0:=hf.log
 have hT0:=hf.term
 have k2:Ctr Tryz.prog 88 [iv 6,iv 1,iv 8] (bv true) []:=by
  have:=zai 6 1 8
  rwa [decide_eq_true (show 1≤(6:Int)∧(6:Int)≤8 from by decide)] at this
 have hfx:=hf
 have hxid:r.id=r.id:=rfl
 have hg1:¬ m.term > r.hard.term:=by omega
 have hx0:¬ m.term < r.hard.term:=by omega
 have hlx:=hfx.log
 have hTx:=hfx.term
 have hmx:r.hard.log.length≤maxLen:=zad (by omega)
 refine sBody Tryz.func40 ?_;conv=>whnf
 refine tC k1 ?_
 refine tK ?_
 refine tK ?_
 refine tC k2 ?_
 refine tC k3 ?_
 refine tC k4 ?_
 refine tC k5 ?_
 refine tC k6 ?_
 refine tC kt ?_
 refine tN0 ?_
 refine tK ?_
 refine tK ?_
 by_cases hro:r.role=3
 ·have kl:=zo5 r hfx hro (mkM m 6) hM.frm hM.index hmt
  generalize zb8 r (mkM m 6)=z at *
  refine tK ?_
  refine tER ([(9990,2)],[],[]) kl ?_
  exact eF1
 ·have e:zb8 r (mkM m 6)=r:=by unfold zb8;rw [if_neg hro]
  rw [e]
  refine tK ?_
  exact eF1
theorem zw0 (r:Rft) (hf:Fit r) (m:Mg) (hM:RightM r m) (hL:0≤m.logTerm∧m.logTerm≤far) (hR:0≤m.round∧m.round≤far) (hgt:r.hard.term < m.term) (hmt:∀ i,i < 7→0≤(fallR r m.term (-1)).mtch.at i∧(fallR r m.term (-1)).mtch.at i≤lastI (fallR r m.term (-1)).hard):Ctr Tryz.prog 40 [.ag r.enc,.ag (mkM m 6).enc] (.tu [.ag (zb8 (fallR r m.term (-1)) (mkM m 6)).enc,.sl 16 ([]),iv 0]) []:=by
 obtain ⟨k1,k3,k4,k5,k6,kt,hne,hto⟩:=za6 hf hM hL hR
 have hl0:=hf.log
 have hT0:=hf.term
 have k2:Ctr Tryz.prog 88 [iv 6,iv 1,iv 8] (bv true) []:=by
  have:=zai 6 1 8
  rwa [decide_eq_true (show 1≤(6:Int)∧(6:Int)≤8 from by decide)] at this
 have kf:=zcq r (zad (by omega)) m.term (-1)
 have hfx:=zbw hf (t:=m.term) (by have:=hM.term;omega) (-1)
 have hxt:=zbb hgt (-1)
 have hxid:(fallR r m.term (-1)).id=r.id:=rfl
 generalize fallR r m.term (-1)=x at *
 have hg1:m.term > r.hard.term:=hgt
 have hx0:¬ m.term < x.hard.term:=by omega
 have hlx:=hfx.log
 have hTx:=hfx.term
 have hmx:x.hard.log.length≤maxLen:=zad (by omega)
 refine sBody Tryz.func40 ?_;conv=>whnf
 refine tC k1 ?_
 refine tK ?_
 refine tK ?_
 refine tC k2 ?_
 refine tC k3 ?_
 refine tC k4 ?_
 refine tC k5 ?_
 refine tC k6 ?_
 refine tC kt ?_
 refine tN0 ?_
 refine tK ?_
 refine tER ([(9990,2)],[],[]) kf ?_
 refine tK ?_
 by_cases hro:x.role=3
 ·have kl:=zo5 x hfx hro (mkM m 6) hM.frm hM.index hmt
  generalize zb8 x (mkM m 6)=z at *
  refine tK ?_
  refine tER ([(9990,2)],[],[]) kl ?_
  exact eF1
 ·have e:zb8 x (mkM m 6)=x:=by unfold zb8;rw [if_neg hro]
  rw [e]
  refine tK ?_
  exact eF1
theorem z02 (r:Rft) (hf:Fit r) (m:Mg) (hM:RightM r m) (hL:0≤m.logTerm∧m.logTerm≤far) (hR:0≤m.round∧m.round≤far) (heq:m.term=r.hard.term)  : Ctr Tryz.prog 40 [.ag r.enc,.ag (mkM m 8).enc] (.tu [.ag (k8R r (mkM m 8)).enc,.sl 16 (k8O r (mkM m 8)),iv 0]) []:=by
 obtain ⟨k1,k3,k4,k5,k6,kt,hne,hto⟩:=za6 hf hM hL hR
 have hl0:=hf.log
 have hT0:=hf.term
 have k2:Ctr Tryz.prog 88 [iv 8,iv 1,iv 8] (bv true) []:=by
  have:=zai 8 1 8
  rwa [decide_eq_true (show 1≤(8:Int)∧(8:Int)≤8 from by decide)] at this
 have hfx:=hf
 have hxid:r.id=r.id:=rfl
 have hg1:¬ m.term > r.hard.term:=by omega
 have hx0:¬ m.term < r.hard.term:=by omega
 have hlx:=hfx.log
 have hTx:=hfx.term
 have hmx:r.hard.log.length≤maxLen:=zad (by omega)
 have kv:=zj1 r hmx
 have kst:=zhy r hfx
 have hlf:=hfx.id
 unfold k8R k8O
 refine sBody Tryz.func40 ?_;conv=>whnf
 refine tC k1 ?_
 refine tK ?_
 refine tK ?_
 refine tC k2 ?_
 refine tC k3 ?_
 refine tC k4 ?_
 refine tC k5 ?_
 refine tC k6 ?_
 refine tC kt ?_
 refine tN0 ?_
 refine tK ?_
 refine tK ?_
 cases hv:zbx r with
 | true =>
  rw [show bitB (bor (zab r).full (zab r).wit) r.id=true from hv] at kv
  rw [if_pos rfl,if_pos rfl]
  refine tCR kv ?_
  by_cases hle:r.lead=m.frm
  ·rw [if_pos (show r.lead=(mkM m 8).frm from hle),if_pos (show r.lead=(mkM m 8).frm from hle)]
   refine tK ?_
   refine tER ([(9990,2)],[],[]) kst ?_
   exact za7 [] (by intro q hq;cases hq) (zat ⟨zao agD,zae _ rfl,zae _ rfl,rfl⟩)
  ·rw [if_neg (show ¬ r.lead=(mkM m 8).frm from hle),if_neg (show ¬ r.lead=(mkM m 8).frm from hle)]
   refine tK ?_
   exact eF1
 | false =>
  rw [show bitB (bor (zab r).full (zab r).wit) r.id=false from hv] at kv
  rw [if_neg (show ¬ false=true by decide),if_neg (show ¬ false=true by decide)]
  refine tCR kv ?_
  exact eF1
theorem zwg (r:Rft) (hf:Fit r) (m:Mg) (hM:RightM r m) (hL:0≤m.logTerm∧m.logTerm≤far) (hR:0≤m.round∧m.round≤far) (hgt:r.hard.term < m.term)  : Ctr Tryz.prog 40 [.ag r.enc,.ag (mkM m 8).enc] (.tu [.ag (k8R (fallR r m.term (-1)) (mkM m 8)).enc,.sl 16 (k8O (fallR r m.term (-1)) (mkM m 8)),iv 0]) []:=by
 obtain ⟨k1,k3,k4,k5,k6,kt,hne,hto⟩:=za6 hf hM hL hR
 have hl0:=hf.log
 have hT0:=hf.term
 have k2:Ctr Tryz.prog 88 [iv 8,iv 1,iv 8] (bv true) []:=by
  have:=zai 8 1 8
  rwa [decide_eq_true (show 1≤(8:Int)∧(8:Int)≤8 from by decide)] at this
 have kf:=zcq r (zad (by omega)) m.term (-1)
 have hfx:=zbw hf (t:=m.term) (by have:=hM.term;omega) (-1)
 have hxt:=zbb hgt (-1)
 have hxid:(fallR r m.term (-1)).id=r.id:=rfl
 generalize fallR r m.term (-1)=x at *
 have hg1:m.term > r.hard.term:=hgt
 have hx0:¬ m.term < x.hard.term:=by omega
 have hlx:=hfx.log
 have hTx:=hfx.term
 have hmx:x.hard.log.length≤maxLen:=zad (by omega)
 have kv:=zj1 x hmx
 have kst:=zhy x hfx
 have hlf:=hfx.id
 unfold k8R k8O
 refine sBody Tryz.func40 ?_;conv=>whnf
 refine tC k1 ?_
 refine tK ?_
 refine tK ?_
 refine tC k2 ?_
 refine tC k3 ?_
 refine tC k4 ?_
 refine tC k5 ?_
 refine tC k6 ?_
 refine tC kt ?_
 refine tN0 ?_
 refine tK ?_
 refine tER ([(9990,2)],[],[]) kf ?_
 refine tK ?_
 cases hv:zbx x with
 | true =>
  rw [show bitB (bor (zab x).full (zab x).wit) x.id=true from hv] at kv
  rw [if_pos rfl,if_pos rfl]
  refine tCR kv ?_
  by_cases hle:x.lead=m.frm
  ·rw [if_pos (show x.lead=(mkM m 8).frm from hle),if_pos (show x.lead=(mkM m 8).frm from hle)]
   refine tK ?_
   refine tER ([(9990,2)],[],[]) kst ?_
   exact za7 [] (by intro q hq;cases hq) (zat ⟨zao agD,zae _ rfl,zae _ rfl,rfl⟩)
  ·rw [if_neg (show ¬ x.lead=(mkM m 8).frm from hle),if_neg (show ¬ x.lead=(mkM m 8).frm from hle)]
   refine tK ?_
   exact eF1
 | false =>
  rw [show bitB (bor (zab x).full (zab x).wit) x.id=false from hv] at kv
  rw [if_neg (show ¬ false=true by decide),if_neg (show ¬ false=true by decide)]
  refine tCR kv ?_
  exact eF1
end Go.Proofs
