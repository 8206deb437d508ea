import Derived.Test.YtbhfokahocgndabGreatC1
import Derived.Test.YtbhfokahocgndabGreatH2
import Derived.Test.YtbhfokahocgndabGreatC5
import Derived.Test.YtbhfokahocgndabGreatPvW
import Derived.Test.YtbhfokahocgndabGreatC47
import Derived.Test.YtbhfokahocgndabGreatC54
/- Contracts of functions: an entry is put into a leader's log. -/
set_option linter.unusedSimpArgs false
set_option linter.unusedVariables false
namespace Go.Proofs
open Go.Pv
set_option maxRecDepth 100000
abbrev logR (r : Rft) (x : Ent) : Hrd := { r.hard with log := r.hard.log ++ [x] }
noncomputable def addR (r : Rft) (x : Ent) : Rft := { r with hard := logR r x, mtch := r.mtch.put r.id.toNat (lastI (logR r x)), commit := zcu (logR r x) r.commit (r.mtch.put r.id.toNat (lastI (logR r x))) }
abbrev repL (x : Rft) (k : Nat) (out : List (List PV)) : List PV := repV x (snW x 1000000) (lgW x k) (rdW x 1000002) (.ow 1000003 0 out.length)
abbrev obL (x : Rft) (k : Nat) (out : List (List PV)) : List (Nat × Option (Bool × Nat × List (List PV))) := [(1000000, snO x), (1000001, none), (1000002, rdO x), (1000003, some (false, 16, out)), (k, lgO x)]
theorem zc1 {i : Int} (h : 0 ≤ i ∧ i < 7) : i.toNat = 0 ∨ i.toNat = 1 ∨ i.toNat = 2 ∨ i.toNat = 3 ∨ i.toNat = 4 ∨ i.toNat = 5 ∨ i.toNat = 6 := by omega
set_option maxHeartbeats 8000000 in
theorem c_add (r : Rft) (hid : 0 ≤ r.id ∧ r.id < 7) (hm : r.hard.log.length ≤ 4294967) (hb : 0 ≤ r.hard.base) (hs : r.hard.base ≤ 1099511627776) (out : List (List PV)) (x : Ent) :
    CtrE Tryz.prog 139 [.pt 1000000 0, .ag x.enc] [(1000000, repI r out)] (obI r out) (iv (lastI (logR r x))) [(1000000, repL (addR r x) 1 out)] (obL (addR r x) 1 out) := by
 have hmap : (logR r x).log.map Ent.enc = r.hard.log.map Ent.enc ++ [x.enc] := by rw [List.map_append]; rfl
 have hlen : (logR r x).log.length = r.hard.log.length + 1 := by rw [List.length_append]; rfl
 have kl := zh3 (logR r x) (zam (by omega))
 have kc := fun m : Arr => c_Commit (logR r x) (zam (by omega)) hb (by show r.hard.base + ((logR r x).log.length : Int) < _; omega) r.commit m
 have b1 : ((r.hard.log.map Ent.enc).length + 1) * 152 ≤ 140737488355328 := by rw [List.length_map]; omega
 have b2 : (r.hard.log.map Ent.enc).length + 1 ≤ maxLen := zam (by rw [List.length_map]; omega)
 unfold addR
 generalize hh : logR r x = H at *
 have e1 : H.term = r.hard.term := by rw [← hh]
 have e2 : H.vote = r.hard.vote := by rw [← hh]
 have e3 : H.base = r.hard.base := by rw [← hh]
 have e4 : H.baseTerm = r.hard.baseTerm := by rw [← hh]
 have e5 : H.baseConf = r.hard.baseConf := by rw [← hh]
 have e6 : H.snap = r.hard.snap := by rw [← hh]
 refine zcg mixed Tryz.func139 rfl (by kernel_rfl) (by kernel_rfl) ?_
 refine tSeq ?_
 conv => whnf
 refine tCut (fun _ : Unit => True) (fun _ => []) (fun _ => [(1000000, repL { r with hard := H } 2000 out), (3, x.enc)]) (fun _ => obL { r with hard := H } 2000 out) ?_ ?_
 ·conv => whnf
  (refine And.intro rfl ?_; (conv => whnf); refine And.intro (And.intro (And.intro (by kernel_rfl) (And.intro (Nat.le_refl _) (And.intro (b1) (And.intro (b2) (by intro r hr; rw [List.mem_singleton.1 hr]; rfl))))) (And.intro (by decide) rfl)) ?_; conv => whnf)
  refine ⟨(), [(1000000, 1000000), (1000001, 1000001), (1000002, 1000002), (1000003, 1000003), (2000, 256)], trivial, ?_⟩
  conv => whnf
  (refine wkx ?_; refine ⟨?_, ?_, ?_⟩ <;> (conv => whnf) <;> repeat' first | exact wkc | (with_reducible refine And.intro ?_ ?_) <;> first | exact wks | refine wko ?_ | refine wki ?_ | refine wkb ?_ | (refine zai ?_; conv => whnf) | (refine zag ?_; conv => whnf) | (refine zae ?_; conv => whnf) | conv => whnf)
  all_goals first | rfl | (rw [e1]; done) | (rw [e2]; done) | (rw [e3]; done) | (rw [e4]; done) | (rw [e5]; done) | (rw [e6]; done) | (rw [hmap]; done) | (rw [hmap]; exact List.length_append.symm) | (refine zav (by kernel_rfl) ?_; rw [hmap, List.take_of_length_le (Nat.le_refl _)]; done) | (refine zav (by kernel_rfl) ?_; rw [hmap, List.take_of_length_le (Nat.le_refl _)]; rfl) | trace_state
 rintro _ _
 refine pwS ?_
 conv => whnf
 ((try (refine Exists.intro none ?_; conv => whnf)); refine own0 ?_; conv => whnf)
 ((try (refine Exists.intro none ?_; conv => whnf)); refine own0 ?_; conv => whnf)
 ((try ((refine Exists.intro none ?_); (conv => whnf))); first | (refine zak (kl) (by simp only [List.drop_zero, List.take_length]) ?_; conv => whnf))
 refine ⟨⟨hid.1, hid.2⟩, ?_⟩
 rcases zc1 hid with e | e | e | e | e | e | e
 ·rw [e]
  conv => whnf
  ((try (refine Exists.intro none ?_; conv => whnf)); refine own0 ?_; conv => whnf)
  ((try (refine Exists.intro none ?_; conv => whnf)); refine own0 ?_; conv => whnf)
  ((try ((refine Exists.intro none ?_); (conv => whnf))); first | (refine zak (kc ⟨lastI H, r.mtch.a1, r.mtch.a2, r.mtch.a3, r.mtch.a4, r.mtch.a5, r.mtch.a6⟩) (by simp only [List.drop_zero, List.take_length]) ?_; conv => whnf))
  (refine zaf [(1000000, 1000000), (1000001, 1000001), (1000002, 1000002), (1000003, 1000003), (1, 2000)] [] ?_; (conv => whnf); exact wkD)
 ·rw [e]
  conv => whnf
  ((try (refine Exists.intro none ?_; conv => whnf)); refine own0 ?_; conv => whnf)
  ((try (refine Exists.intro none ?_; conv => whnf)); refine own0 ?_; conv => whnf)
  ((try ((refine Exists.intro none ?_); (conv => whnf))); first | (refine zak (kc ⟨r.mtch.a0, lastI H, r.mtch.a2, r.mtch.a3, r.mtch.a4, r.mtch.a5, r.mtch.a6⟩) (by simp only [List.drop_zero, List.take_length]) ?_; conv => whnf))
  (refine zaf [(1000000, 1000000), (1000001, 1000001), (1000002, 1000002), (1000003, 1000003), (1, 2000)] [] ?_; (conv => whnf); exact wkD)
 ·rw [e]
  conv => whnf
  ((try (refine Exists.intro none ?_; conv => whnf)); refine own0 ?_; conv => whnf)
  ((try (refine Exists.intro none ?_; conv => whnf)); refine own0 ?_; conv => whnf)
  ((try ((refine Exists.intro none ?_); (conv => whnf))); first | (refine zak (kc ⟨r.mtch.a0, r.mtch.a1, lastI H, r.mtch.a3, r.mtch.a4, r.mtch.a5, r.mtch.a6⟩) (by simp only [List.drop_zero, List.take_length]) ?_; conv => whnf))
  (refine zaf [(1000000, 1000000), (1000001, 1000001), (1000002, 1000002), (1000003, 1000003), (1, 2000)] [] ?_; (conv => whnf); exact wkD)
 ·rw [e]
  conv => whnf
  ((try (refine Exists.intro none ?_; conv => whnf)); refine own0 ?_; conv => whnf)
  ((try (refine Exists.intro none ?_; conv => whnf)); refine own0 ?_; conv => whnf)
  ((try ((refine Exists.intro none ?_); (conv => whnf))); first | (refine zak (kc ⟨r.mtch.a0, r.mtch.a1, r.mtch.a2, lastI H, r.mtch.a4, r.mtch.a5, r.mtch.a6⟩) (by simp only [List.drop_zero, List.take_length]) ?_; conv => whnf))
  (refine zaf [(1000000, 1000000), (1000001, 1000001), (1000002, 1000002), (1000003, 1000003), (1, 2000)] [] ?_; (conv => whnf); exact wkD)
 ·rw [e]
  conv => whnf
  ((try (refine Exists.intro none ?_; conv => whnf)); refine own0 ?_; conv => whnf)
  ((try (refine Exists.intro none ?_; conv => whnf)); refine own0 ?_; conv => whnf)
  ((try ((refine Exists.intro none ?_); (conv => whnf))); first | (refine zak (kc ⟨r.mtch.a0, r.mtch.a1, r.mtch.a2, r.mtch.a3, lastI H, r.mtch.a5, r.mtch.a6⟩) (by simp only [List.drop_zero, List.take_length]) ?_; conv => whnf))
  (refine zaf [(1000000, 1000000), (1000001, 1000001), (1000002, 1000002), (1000003, 1000003), (1, 2000)] [] ?_; (conv => whnf); exact wkD)
 ·rw [e]
  conv => whnf
  ((try (refine Exists.intro none ?_; conv => whnf)); refine own0 ?_; conv => whnf)
  ((try (refine Exists.intro none ?_; conv => whnf)); refine own0 ?_; conv => whnf)
  ((try ((refine Exists.intro none ?_); (conv => whnf))); first | (refine zak (kc ⟨r.mtch.a0, r.mtch.a1, r.mtch.a2, r.mtch.a3, r.mtch.a4, lastI H, r.mtch.a6⟩) (by simp only [List.drop_zero, List.take_length]) ?_; conv => whnf))
  (refine zaf [(1000000, 1000000), (1000001, 1000001), (1000002, 1000002), (1000003, 1000003), (1, 2000)] [] ?_; (conv => whnf); exact wkD)
 ·rw [e]
  conv => whnf
  ((try (refine Exists.intro none ?_; conv => whnf)); refine own0 ?_; conv => whnf)
  ((try (refine Exists.intro none ?_; conv => whnf)); refine own0 ?_; conv => whnf)
  ((try ((refine Exists.intro none ?_); (conv => whnf))); first | (refine zak (kc ⟨r.mtch.a0, r.mtch.a1, r.mtch.a2, r.mtch.a3, r.mtch.a4, r.mtch.a5, lastI H⟩) (by simp only [List.drop_zero, List.take_length]) ?_; conv => whnf))
  (refine zaf [(1000000, 1000000), (1000001, 1000001), (1000002, 1000002), (1000003, 1000003), (1, 2000)] [] ?_; (conv => whnf); exact wkD)
theorem compE_inv {h : Hrd} {i : Int} {s : List Int} (e : compE h i s = 0) : hardB h = true ∧ (h.base < i ∧ i ≤ lastI h ∧ i ≤ 1099511627776) ∧ ¬ 16384 < s.length := by
 unfold compE at e
 by_cases h1 : hardB h = true
 ·rw [if_pos h1] at e
  by_cases h2 : h.base < i ∧ i ≤ lastI h ∧ i ≤ 1099511627776
  ·rw [if_pos h2] at e
   by_cases h3 : 16384 < s.length
   ·rw [if_pos h3] at e; omega
   ·exact ⟨h1, h2, h3⟩
  ·rw [if_neg h2] at e; omega
 ·rw [if_neg h1] at e; omega
theorem instE_inv {h : Hrd} {i t : Int} {c : Conf} {s : List Int} (e : instE h i t c s = 0) : hardB h = true ∧ ((h.base < i ∧ i ≤ 1099511627776) ∧ (1 ≤ t ∧ t ≤ h.term ∧ h.baseTerm ≤ t)) ∧ confB c = true ∧ ¬ 16384 < s.length := by
 unfold instE at e
 by_cases h1 : hardB h = true
 ·rw [if_pos h1] at e
  by_cases h2 : (h.base < i ∧ i ≤ 1099511627776) ∧ (1 ≤ t ∧ t ≤ h.term ∧ h.baseTerm ≤ t)
  ·rw [if_pos h2] at e
   by_cases h3 : confB c = true
   ·rw [if_pos h3] at e
    by_cases h4 : 16384 < s.length
    ·rw [if_pos h4] at e; omega
    ·exact ⟨h1, h2, h3, h4⟩
   ·rw [if_neg h3] at e; omega
  ·rw [if_neg h2] at e; omega
 ·rw [if_neg h1] at e; omega
theorem inst_fits {h : Hrd} {i t : Int} {c : Conf} {s : List Int} {q : Nat} (hi : i = h.base + q) (hq : q ≤ h.log.length) (hf : fits h i t = true) : instH h i t c s = cutH h q c s := by
 have ht : za1 h.log h.baseTerm q = t := by
  unfold fits at hf
  simp only [Bool.and_eq_true, beq_iff_eq] at hf
  rw [← hf.2, zdq hi hq]
 unfold instH cutH
 rw [hf, if_pos rfl, show (i - h.base).toNat = q by omega, ht, hi]
theorem inst_new {h : Hrd} {i t : Int} {c : Conf} {s : List Int} (hh : hardB h = true) (h1 : (h.base < i ∧ i ≤ 1099511627776) ∧ (1 ≤ t ∧ t ≤ h.term ∧ h.baseTerm ≤ t)) (hc : confB c = true) (hs : s.length ≤ 16384) : hardB ⟨h.term, h.vote, i, t, c, s, []⟩ = true := by
 obtain ⟨hA, _, _, _⟩ := za8 hh
 have hb := hA.b
 unfold hardB
 rw [zd3 (show HardA ⟨h.term, h.vote, i, t, c, s, []⟩ from ⟨hA.t, hA.v, by show 0 ≤ i ∧ i ≤ _; omega, by show 0 ≤ t ∧ t ≤ h.term; omega, by show t = 0 ↔ i = 0; omega⟩)]
 simp only [hc, Bool.and_true, Bool.true_and, decide_eq_true_eq, rowB]
 exact ⟨hs, .inl (by omega)⟩
theorem zky (m : Arr) (n : Int) (i : Nat) : ∀ k : Nat, k ≤ 7 → tb (haveB m n k) i = true → n ≤ m.at i
 | 0, _, h => by
  rw [show haveB m n 0 = 0 from rfl, zd5] at h
  cases h
 | k + 1, hk, h => by
  by_cases hc : n ≤ m.at k
  ·rw [show haveB m n (k + 1) = bor (haveB m n k) (shl 1 k) from if_pos hc, tb_or, Bool.or_eq_true] at h
   rcases h with h | h
   ·exact zky m n i k (by omega) h
   ·rw [zdu k i (by omega), decide_eq_true_eq] at h
    subst h; exact hc
  ·rw [show haveB m n (k + 1) = haveB m n k from if_neg hc] at h
   exact zky m n i k (by omega) h
theorem zk8 (a : Arr) (x : Int) {k i : Nat} (hk : k < 7) (hi : i < 7) : (a.put k x).at i = if i = k then x else a.at i := by
 rcases (by omega : k = 0 ∨ k = 1 ∨ k = 2 ∨ k = 3 ∨ k = 4 ∨ k = 5 ∨ k = 6) with rfl | rfl | rfl | rfl | rfl | rfl | rfl <;>
 rcases (by omega : i = 0 ∨ i = 1 ∨ i = 2 ∨ i = 3 ∨ i = 4 ∨ i = 5 ∨ i = 6) with rfl | rfl | rfl | rfl | rfl | rfl | rfl <;> rfl
end Go.Proofs
