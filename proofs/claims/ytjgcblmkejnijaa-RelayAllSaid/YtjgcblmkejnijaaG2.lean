/- Contracts of functions: messages compared, as they are; whether two rows of them are the same, in any order. -/
import Derived.Test.YtjgcblmkejnijaaG1
import Derived.Test.YtjgcblmkejnijaaE5
set_option linter.unusedSimpArgs false
set_option linter.unusedVariables false
namespace Go.Proofs
open Go.Pv
set_option maxRecDepth 100000

open Classical in
noncomputable def zsOf (m : Mg) : List Mg := if h : MgS m then Classical.choose h.ok else []
theorem zsOf_ok {m : Mg} (h : MgS m) : m.inner = (zsOf m).map Mg.enc ∧ (zsOf m).length * 176 ≤ 140737488351232 ∧ ∀ z ∈ zsOf m, MgS z := by
  unfold zsOf
  rw [dif_pos h]
  exact Classical.choose_spec h.ok
noncomputable def msgK (m : Mg) : FlatK × List FlatK := (flatK m, (zsOf m).map flatK)
theorem sz_ok {m : Mg} (h : MgS m) : m.snap.length ≤ maxLen ∧ m.entries.length ≤ maxLen := by
  obtain ⟨hz, _⟩ := h.ok2
  exact ⟨leMax (by have := hz.sn; omega), leMax (by have := hz.es; omega)⟩
set_option maxHeartbeats 1000000 in
theorem c_kMsg (a b : Mg) (ha : MgS a) (hb : MgS b) : Ctr Try.prog 37 [.ag a.enc, .ag b.enc] (bv (decide (msgK a = msgK b))) [] := by
  obtain ⟨ea, la, sa⟩ := zsOf_ok ha
  obtain ⟨eb, lb, sb⟩ := zsOf_ok hb
  have kf := c_kFlat a b (sz_ok ha).1 (sz_ok ha).2
  by_cases hf : flatK a = flatK b
  · rw [decide_eq_true hf] at kf
    have hlen : a.inner.length = b.inner.length := congrArg FlatK.inner hf
    have e1 : a.inner.length = (zsOf a).length := by rw [ea, List.length_map]
    have e2 : b.inner.length = (zsOf b).length := by rw [eb, List.length_map]
    have hk : (msgK a = msgK b) ↔ (zsOf a).map flatK = (zsOf b).map flatK := by
      unfold msgK
      rw [Prod.mk.injEq]
      exact ⟨fun h => h.2, fun h => ⟨hf, h⟩⟩
    have hd : decide (msgK a = msgK b) = decide ((zsOf a).map flatK = (zsOf b).map flatK) := decide_eq_decide.2 hk
    rw [hd]
    clear hd hk
    have hll : (zsOf a).length = (zsOf b).length := by omega
    generalize zsOf a = l at *
    generalize zsOf b = m at *
    refine spec_of_body mixed Try.func37 rfl (by kernel_rfl) (by kernel_rfl) ?_; conv => whnf
    ((try ((refine Exists.intro none ?_); (conv => whnf))); first | ((with_reducible refine call_by (kf) ?_); conv => whnf))
    refine tri_for0 mixed (by kernel_rfl) (fun i : Nat => i ≤ l.length ∧ ∀ j (hj : j < l.length), j < i → flatK (l[j]'hj) = flatK (m[j]'(hll ▸ hj))) (fun i => [(5, iv i)]) [] (fun i => l.length - i) 0 ⟨Nat.zero_le _, fun j _ h => absurd h (Nat.not_lt_zero _)⟩ ?_ ?_
    · conv => whnf
      (refine And.intro (And.intro (by with_unfolding_all rfl) (by intro q h; cases h)) ?_; refine And.intro ?_ (And.intro ?_ ?_) <;> (conv => whnf) <;> (repeat' (first | exact True.intro | (with_reducible exact rfl) | exact (rfl : List.replicate 0 PV.bad = []) | ((with_reducible refine And.intro ?_ ?_) <;> (first | (with_reducible exact wkV_same _ rfl) | exact wkV_pt rfl rfl | exact wkV_ow rfl rfl rfl | (refine wkV_ow rfl rfl ?_) | (refine wkV_sc (congrArg (Value.int .i64) ?_)) | (refine wkV_sc (congrArg Value.bool ?_)) | exact wkV_ls rfl | ((refine wkV_cl ?_); conv => whnf) | ((refine wkV_tu ?_); conv => whnf) | ((refine wkV_ag ?_); conv => whnf) | (conv => whnf))))))
      all_goals rfl
    rintro i ⟨hi, hp⟩
    conv => whnf
    ((first | (with_reducible refine split_dec (fun h => ?_) (fun h => ?_)) | (with_reducible refine split_beq (fun h => ?_) (fun h => ?_)) | (with_reducible refine split_bne (fun h => ?_) (fun h => ?_)) | (with_reducible refine split_not (fun h => ?_) (fun h => ?_)) | (with_reducible refine split_beqS (fun h => ?_) (fun h => ?_)) | (with_reducible refine split_intro (fun h => ?_) (fun h => ?_))) <;> conv => whnf)
    · have hlt : i < l.length := by omega
      have hlt2 : i < m.length := by omega
      clear h
      have r1 : a.inner[((i : Nat) : Int).toNat]? = some (l[i]'hlt).enc := by rw [ea]; exact row_at hlt
      have r2 : b.inner[((i : Nat) : Int).toNat]? = some (m[i]'hlt2).enc := by rw [eb]; exact row_at hlt2
      have kc := c_kFlat (l[i]'hlt) (m[i]'hlt2) (sz_ok (sa _ (List.getElem_mem hlt))).1 (sz_ok (sa _ (List.getElem_mem hlt))).2
      refine ⟨by omega, _, r1, ?_⟩
      conv => whnf
      refine ⟨by omega, _, r2, ?_⟩
      conv => whnf
      by_cases hn : flatK (l[i]'hlt) = flatK (m[i]'hlt2)
      · rw [decide_eq_true hn] at kc
        ((try ((refine Exists.intro none ?_); (conv => whnf))); first | ((with_reducible refine call_by (kc) ?_); conv => whnf))
        refine ⟨i + 1, ⟨⟨by omega, fun j hj hji => ?_⟩, by omega⟩, ?_⟩
        · by_cases e : j = i
          · subst e; exact hn
          · exact hp j hj (by omega)
        conv => whnf
        (refine And.intro (And.intro (by with_unfolding_all rfl) (by intro q h; cases h)) ?_; refine And.intro ?_ (And.intro ?_ ?_) <;> (conv => whnf) <;> (repeat' (first | exact True.intro | (with_reducible exact rfl) | exact (rfl : List.replicate 0 PV.bad = []) | ((with_reducible refine And.intro ?_ ?_) <;> (first | (with_reducible exact wkV_same _ rfl) | exact wkV_pt rfl rfl | exact wkV_ow rfl rfl rfl | (refine wkV_ow rfl rfl ?_) | (refine wkV_sc (congrArg (Value.int .i64) ?_)) | (refine wkV_sc (congrArg Value.bool ?_)) | exact wkV_ls rfl | ((refine wkV_cl ?_); conv => whnf) | ((refine wkV_tu ?_); conv => whnf) | ((refine wkV_ag ?_); conv => whnf) | (conv => whnf))))))
        all_goals first | exact w1 (by omega) | rfl | trace_state
      · rw [decide_eq_false hn] at kc
        ((try ((refine Exists.intro none ?_); (conv => whnf))); first | ((with_reducible refine call_by (kc) ?_); conv => whnf))
        refine exit_plain rfl (congrArg (fun b : Bool => bv b) ?_)
        symm
        apply decide_eq_false
        intro e
        have : (l.map flatK)[i]? = (m.map flatK)[i]? := by rw [e]
        rw [List.getElem?_map, List.getElem?_map, List.getElem?_eq_getElem hlt, List.getElem?_eq_getElem hlt2] at this
        exact hn (Option.some.inj this)
    · have hi' : i = l.length := by omega
      subst hi'
      refine exit_plain rfl (congrArg (fun b : Bool => bv b) ?_)
      symm
      apply decide_eq_true
      apply List.ext_getElem
      · simp [hll]
      · intro j h1 h2
        rw [List.getElem_map, List.getElem_map]
        exact hp j (by simpa using h1) (by simpa using h1)
  · rw [decide_eq_false hf] at kf
    rw [decide_eq_false (fun e => hf (congrArg Prod.fst e))]
    refine spec_of_body mixed Try.func37 rfl (by kernel_rfl) (by kernel_rfl) ?_; conv => whnf
    ((try ((refine Exists.intro none ?_); (conv => whnf))); first | ((with_reducible refine call_by (kf) ?_); conv => whnf))
    exact exit_plain rfl rfl

/-! Each to one of the other row: what is used of a kind. -/
section
variable {κ : Type} [DecidableEq κ] (K : Mg → κ)
def usedC (z : κ) : List Bool → List Mg → Nat
  | u :: U, y :: B => (if u = true ∧ K y = z then 1 else 0) + usedC z U B
  | _, _ => 0
theorem usedC_set (z : κ) : ∀ (U : List Bool) (B : List Mg) (k : Nat) (hk : k < U.length) (hb : k < B.length), U[k]'hk = false → usedC K z (U.set k true) B = usedC K z U B + (if K (B[k]'hb) = z then 1 else 0)
  | u :: U, y :: B, 0, _, _, h => by
    have h : u = false := h
    subst h
    simp only [List.set_cons_zero, usedC, List.getElem_cons_zero]
    simp
    omega
  | u :: U, y :: B, k + 1, hk, hb, h => by
    simp only [List.set_cons_succ, usedC, List.getElem_cons_succ]
    rw [usedC_set z U B k (by simpa using hk) (by simpa using hb) (by simpa using h)]
    omega
theorem usedC_all (z : κ) (U : List Bool) : ∀ (B : List Mg), U.length = B.length → (∀ j (hj : j < U.length) (hb : j < B.length), K (B[j]'hb) = z → U[j]'hj = true) → usedC K z U B = (B.map K).count z := by
  induction U with
  | nil =>
    intro B hl _
    have : B = [] := List.eq_nil_of_length_eq_zero hl.symm
    subst this
    simp [usedC]
  | cons u U ih =>
    intro B hl h
    cases B with
    | nil => simp at hl
    | cons y B =>
      have ih := ih B (by simpa using hl) (fun j hj hb e => h (j + 1) (by simpa using hj) (by simpa using hb) e)
      have h0 : K y = z → u = true := fun e => h 0 (by simp) (by simp) e
      simp only [usedC, List.map_cons, List.count_cons, ih]
      by_cases e : K y = z
      · rw [if_pos ⟨h0 e, e⟩, if_pos (by simpa using e)]; omega
      · rw [if_neg (fun hh => e hh.2), if_neg (by simpa using e)]; omega
theorem usedC_0 (z : κ) (n : Nat) : ∀ B : List Mg, usedC K z (List.replicate n false) B = 0 := by
  induction n with
  | zero => intro B; cases B <;> simp [usedC]
  | succ n ih =>
    intro B
    cases B with
    | nil => simp [List.replicate_succ, usedC]
    | cons y B =>
      rw [List.replicate_succ]
      simp only [usedC]
      rw [ih B]; simp
/-- There is one left. -/
theorem one_left {A B : List Mg} (hp : (A.map K).Perm (B.map K)) {U : List Bool} (hU : U.length = B.length) {i : Nat} (hi : i < A.length) (hc : ∀ z, usedC K z U B = ((A.take i).map K).count z) : ∃ k, ∃ (hk : k < U.length) (hb : k < B.length), U[k]'hk = false ∧ K (A[i]'hi) = K (B[k]'hb) := by
  apply Classical.byContradiction
  intro hn
  have h1 := usedC_all K (K (A[i]'hi)) U B hU (fun j hj hb e => by
    cases hu : U[j]'hj with
    | true => rfl
    | false => exact absurd ⟨j, hj, hb, hu, e.symm⟩ hn)
  rw [hc, ← hp.count_eq] at h1
  have h2 : (A.map K).count (K (A[i]'hi)) = ((A.take (i + 1)).map K).count (K (A[i]'hi)) + ((A.drop (i + 1)).map K).count (K (A[i]'hi)) := by
    rw [← List.count_append, ← List.map_append, List.take_append_drop]
  have h3 : ((A.take (i + 1)).map K).count (K (A[i]'hi)) = ((A.take i).map K).count (K (A[i]'hi)) + 1 := by
    rw [List.take_succ_eq_append_getElem hi, List.map_append, List.count_append]; simp
  omega
end
end Go.Proofs
