/- Contracts of functions: the reference's Grow, Next, messages compared, the wake. -/
import Derived.Test.YtjgcblmkejnijaaC55
import Derived.Test.YtjgcblmkejnijaaC57
import Derived.Test.YtjgcblmkejnijaaC53
set_option linter.unusedSimpArgs false
set_option linter.unusedVariables false
namespace Go.Proofs
open Go.Pv
set_option maxRecDepth 100000

theorem heavyF_len {m : Mg} (e : heavyF m = false) : m.entries.length ≤ 200 ∧ m.snap.length ≤ 32768 := by
  simp only [heavyF, heavyEs, Bool.or_eq_false_iff, decide_eq_false_iff_not] at e
  omega
theorem heavyM_len {m : Mg} (e : heavyM m = false) : (m.entries.length ≤ 200 ∧ m.snap.length ≤ 32768) ∧ m.inn.length ≤ 20 ∧ ∀ y ∈ m.inn, (y.entries.length ≤ 200 ∧ y.snap.length ≤ 32768) ∧ y.inn.length ≤ 3 ∧ ∀ z ∈ y.inn, z.entries.length ≤ 200 ∧ z.snap.length ≤ 32768 := by
  simp only [heavyM, Bool.or_eq_false_iff, decide_eq_false_iff_not, List.any_eq_false] at e
  obtain ⟨e1, e2, e3⟩ := e
  refine ⟨heavyF_len e1, by omega, fun y hy => ?_⟩
  have := e3 y hy
  simp only [Bool.not_eq_true, heavyM1, Bool.or_eq_false_iff, decide_eq_false_iff_not, List.any_eq_false] at this
  obtain ⟨f1, f2, f3⟩ := this
  exact ⟨heavyF_len f1, by omega, fun z hz => heavyF_len (by simpa using f3 z hz)⟩

theorem c_gNext (nx mt : Int) (m : Mg) (h1 : -1152921504606846976 ≤ nx ∧ nx ≤ 1152921504606846976) (h2 : -1152921504606846976 ≤ mt ∧ mt ≤ 1152921504606846976) (h3 : -1152921504606846976 ≤ m.index ∧ m.index ≤ 1152921504606846976) :
    Ctr Try.prog 39 [iv nx, iv mt, .ag m.enc] (.tu [iv (nxN nx mt m.yes m.index), iv (nxM mt m.yes m.index)]) [] := by
  have w1 : IntKind.i64.wrap (nx - 1) = nx - 1 := wrap_id (by omega) (by omega)
  have w2 : IntKind.i64.wrap (m.index + 1) = m.index + 1 := wrap_id (by omega) (by omega)
  have w3 : IntKind.i64.wrap (mt + 1) = mt + 1 := wrap_id (by omega) (by omega)
  have w4 : ∀ x : Int, x ≤ 1152921504606846976 → -1152921504606846976 ≤ x → IntKind.i64.wrap (x + 1) = x + 1 := fun x _ _ => wrap_id (by omega) (by omega)
  refine spec_of_body mixed Try.func39 rfl (by kernel_rfl) (by kernel_rfl) ?_; conv => whnf
  ((first | (with_reducible refine split_dec (fun h => ?_) (fun h => ?_)) | (with_reducible refine split_beq (fun h => ?_) (fun h => ?_)) | (with_reducible refine split_bne (fun h => ?_) (fun h => ?_)) | (with_reducible refine split_not (fun h => ?_) (fun h => ?_)) | (with_reducible refine split_beqS (fun h => ?_) (fun h => ?_)) | (with_reducible refine split_intro (fun h => ?_) (fun h => ?_))) <;> conv => whnf)
  · refine exit_plain rfl ?_
    rw [w4 _ (by split <;> omega) (by split <;> omega), h]
    have q1 : nxM mt true m.index = (if m.index > mt then m.index else mt) := by unfold nxM; rw [if_pos rfl]; split <;> omega
    have q2 : nxN nx mt true m.index = (if (if m.index > mt then m.index else mt) + 1 > nx then (if m.index > mt then m.index else mt) + 1 else nx) := by unfold nxN; rw [if_pos rfl]; repeat' split <;> omega
    rw [q1, q2]
  · have q1 : nxM mt false m.index = mt := by unfold nxM; rw [if_neg (by decide)]
    have q2 : nxN nx mt false m.index = max (min (nx - 1) (m.index + 1)) (mt + 1) := by unfold nxN; rw [if_neg (by decide)]
    rw [h, q1, q2]
    ((first | (with_reducible refine split_dec (fun h => ?_) (fun h => ?_)) | (with_reducible refine split_beq (fun h => ?_) (fun h => ?_)) | (with_reducible refine split_bne (fun h => ?_) (fun h => ?_)) | (with_reducible refine split_not (fun h => ?_) (fun h => ?_)) | (with_reducible refine split_beqS (fun h => ?_) (fun h => ?_)) | (with_reducible refine split_intro (fun h => ?_) (fun h => ?_))) <;> conv => whnf)
    · ((first | (with_reducible refine split_dec (fun h => ?_) (fun h => ?_)) | (with_reducible refine split_beq (fun h => ?_) (fun h => ?_)) | (with_reducible refine split_bne (fun h => ?_) (fun h => ?_)) | (with_reducible refine split_not (fun h => ?_) (fun h => ?_)) | (with_reducible refine split_beqS (fun h => ?_) (fun h => ?_)) | (with_reducible refine split_intro (fun h => ?_) (fun h => ?_))) <;> conv => whnf)
      · refine exit_plain rfl ?_
        rw [w1] at *
        rw [w2, w3, show (if mt + 1 > m.index + 1 then mt + 1 else m.index + 1) = max (min (nx - 1) (m.index + 1)) (mt + 1) by split <;> omega]
      · refine exit_plain rfl ?_
        rw [w1] at *
        rw [w3, show (if mt + 1 > nx - 1 then mt + 1 else nx - 1) = max (min (nx - 1) (m.index + 1)) (mt + 1) by split <;> omega]
    · exfalso; omega
abbrev Mg.wi (m : Mg) (r : List (List PV)) : Mg := { m with inner := r }
theorem s_flat (m : Mg) (r1 r2 : List (List PV)) (hr : r1.length = r2.length) (h1 : m.snap.length ≤ maxLen) (h2 : m.entries.length ≤ maxLen) : Ctr Try.prog 77 [.ag (m.wi r1).enc, .ag (m.wi r2).enc] (bv true) [] := by
  refine spec_of_body mixed Try.func77 rfl (by kernel_rfl) (by kernel_rfl) ?_; conv => whnf
  repeat' (first | ((first | (with_reducible refine split_et rfl ?_) | (with_reducible refine split_bf rfl ?_) | (with_reducible refine split_t (beq_self_eq_true _) ?_) | (with_reducible refine split_f (bne_self_eq_false _) ?_)); conv => whnf) | ((with_reducible refine And.intro (show Try.prog.underlying _ = some .bool by kernel_rfl) ?_); conv => whnf) | ((try ((refine Exists.intro none ?_); (conv => whnf))); first | ((with_reducible refine call_by (s_Conf m.conf) ?_); conv => whnf) | ((with_reducible refine call_by (s_Bytes m.snap h1) ?_); conv => whnf) | ((with_reducible refine call_by (s_Entries m.entries h2) ?_); conv => whnf)))
  exact exit_plain rfl (by simp [hr])
theorem s_Msg (m : Mg) (zs : List Mg) (hl : zs.length ≤ 4294967) (f : Mg → List (List PV)) (hf : ∀ z ∈ zs, (f z).length = z.inner.length ∧ z.snap.length ≤ maxLen ∧ z.entries.length ≤ maxLen) (h1 : m.snap.length ≤ maxLen) (h2 : m.entries.length ≤ maxLen) :
    Ctr Try.prog 37 [.ag (m.wi (zs.map fun z => (z.wi (f z)).enc)).enc, .ag (m.wi (zs.map Mg.enc)).enc] (bv true) [] := by
  refine spec_of_body mixed Try.func37 rfl (by kernel_rfl) (by kernel_rfl) ?_; conv => whnf
  ((try ((refine Exists.intro none ?_); (conv => whnf))); first | ((with_reducible refine call_by (s_flat m (zs.map fun z => (z.wi (f z)).enc) (zs.map Mg.enc) (by simp) h1 h2) ?_); conv => whnf))
  refine tri_for0 mixed (by kernel_rfl) (fun j : Nat => j ≤ zs.length) (fun j => [(5, iv j)]) [] (fun j => zs.length - j) 0 (Nat.zero_le _) ?_ ?_
  · conv => whnf
    (refine And.intro (And.intro (by with_unfolding_all rfl) (by intro q h; cases h)) ?_; refine And.intro ?_ (And.intro ?_ ?_) <;> (conv => whnf) <;> (repeat' (first | exact True.intro | (with_reducible exact rfl) | exact (rfl : List.replicate 0 PV.bad = []) | ((with_reducible refine And.intro ?_ ?_) <;> (first | (with_reducible exact wkV_same _ rfl) | exact wkV_pt rfl rfl | exact wkV_ow rfl rfl rfl | (refine wkV_ow rfl rfl ?_) | (refine wkV_sc (congrArg (Value.int .i64) ?_)) | (refine wkV_sc (congrArg Value.bool ?_)) | exact wkV_ls rfl | ((refine wkV_cl ?_); conv => whnf) | ((refine wkV_tu ?_); conv => whnf) | ((refine wkV_ag ?_); conv => whnf) | (conv => whnf))))))
    all_goals rfl
  intro j hj
  conv => whnf
  ((first | (with_reducible refine split_dec (fun h => ?_) (fun h => ?_)) | (with_reducible refine split_beq (fun h => ?_) (fun h => ?_)) | (with_reducible refine split_bne (fun h => ?_) (fun h => ?_)) | (with_reducible refine split_not (fun h => ?_) (fun h => ?_)) | (with_reducible refine split_beqS (fun h => ?_) (fun h => ?_)) | (with_reducible refine split_intro (fun h => ?_) (fun h => ?_))) <;> conv => whnf)
  · simp only [List.length_map] at h
    have hlt : j < zs.length := by omega
    obtain ⟨e1, e2, e3⟩ := hf _ (List.getElem_mem hlt)
    refine ⟨by omega, _, row_at hlt, ?_⟩
    conv => whnf
    refine ⟨by omega, _, row_at hlt, ?_⟩
    conv => whnf
    ((try ((refine Exists.intro none ?_); (conv => whnf))); first | ((with_reducible refine call_by (s_flat (zs[j]'hlt) (f (zs[j]'hlt)) (zs[j]'hlt).inner e1 e2 e3) ?_); conv => whnf))
    refine ⟨j + 1, ⟨by omega, by omega⟩, ?_⟩
    conv => whnf
    (refine And.intro (And.intro (by with_unfolding_all rfl) (by intro q h; cases h)) ?_; refine And.intro ?_ (And.intro ?_ ?_) <;> (conv => whnf) <;> (repeat' (first | exact True.intro | (with_reducible exact rfl) | exact (rfl : List.replicate 0 PV.bad = []) | ((with_reducible refine And.intro ?_ ?_) <;> (first | (with_reducible exact wkV_same _ rfl) | exact wkV_pt rfl rfl | exact wkV_ow rfl rfl rfl | (refine wkV_ow rfl rfl ?_) | (refine wkV_sc (congrArg (Value.int .i64) ?_)) | (refine wkV_sc (congrArg Value.bool ?_)) | exact wkV_ls rfl | ((refine wkV_cl ?_); conv => whnf) | ((refine wkV_tu ?_); conv => whnf) | ((refine wkV_ag ?_); conv => whnf) | (conv => whnf))))))
    all_goals first | exact w1 (by omega) | rfl
  · exact exit_plain rfl rfl

theorem s_ans (yes : Bool) (i : Int) : Ctr Try.prog 37 [.ag (ansV yes i), .ag (ansV yes i)] (bv true) [] := by
  have := s_Msg ⟨6, 0, 0, 0, i, 0, 0, 0, yes, [], ⟨0, 0, 0, 0⟩, [], []⟩ [] (by simp) (fun _ => []) (by simp) (by simp) (by simp)
  refine this.deep ?_
  repeat' (first | exact subVL_nil | refine subVL_cons ?_ ?_ | exact SubV.refl _ | exact subV_nl | refine subV_ag ?_)
theorem s_MsgZ : Ctr Try.prog 37 [.ag mzv, .ag mzv] (bv true) [] := by
  have := s_Msg ⟨0, 0, 0, 0, 0, 0, 0, 0, false, [], ⟨0, 0, 0, 0⟩, [], []⟩ [] (by simp) (fun _ => []) (by simp) (by simp) (by simp)
  refine this.deep ?_
  repeat' (first | exact subVL_nil | refine subVL_cons ?_ ?_ | exact SubV.refl _ | exact subV_nl | refine subV_ag ?_)

abbrev w16 : Hrd := ⟨1, -1, 0, 0, ⟨1, 0, 0, 0⟩, [], [et 1]⟩
abbrev m16 : Mg := ⟨0, 0, 0, 0, 2, 1, 0, 0, false, [et 1], ⟨0, 0, 0, 0⟩, [], []⟩
theorem hardB_w16 : hardB w16 = true := by
  have h1 : rowB [et 1] 0 1 = true := by simp [rowB, entryB_et]; decide
  unfold hardB
  rw [dec_true (show HardA w16 from ⟨by simp, by simp, by simp, by simp, by simp⟩), confB_1, h1]
  simp
end Go.Proofs
