import Derived.Test.YtbhfokahocgndaaC1
/- Contracts of functions: what is more than is played. -/
set_option linter.unusedSimpArgs false
set_option linter.unusedVariables false
namespace Go.Proofs
open Go.Pv
set_option maxRecDepth 100000

theorem row_at {α : Type} {f : α → List PV} {l : List α} {i : Nat} (h : i < l.length) : (l.map f)[((i : Nat) : Int).toNat]? = some (f (l[i]'h)) := by
  simp [h]

def heavyCmd (c : VCmd) : Bool := decide (2000 < (c.key.size : Int)) || (decide (2000 < (c.old.text.size : Int)) || decide (2000 < (c.val.text.size : Int)))

theorem c_HeavyCmd (c : VCmd) : Ctr Try.prog 22 [.ag c.enc] (bv (heavyCmd c)) [] := by
  refine spec_of_body mixed Try.func22 rfl (by kernel_rfl) (by kernel_rfl) ?_; conv => whnf
  repeat' ((first | (with_reducible refine split_dec (fun h => ?_) (fun h => ?_)) | (with_reducible refine split_beq (fun h => ?_) (fun h => ?_)) | (with_reducible refine split_bne (fun h => ?_) (fun h => ?_)) | (with_reducible refine split_not (fun h => ?_) (fun h => ?_)) | (with_reducible refine split_beqS (fun h => ?_) (fun h => ?_)) | (with_reducible refine split_intro (fun h => ?_) (fun h => ?_))) <;> conv => whnf)
  all_goals (refine exit_plain rfl ?_; simp [heavyCmd, *])

def heavyEs (l : List Ent) : Bool := decide (200 < (l.length : Int)) || l.any fun x => heavyCmd x.call.cmd

theorem any_at {α : Type} {p : α → Bool} {l : List α} {i : Nat} (h : i < l.length) (hp : p (l[i]'h) = true) : l.any p = true := by
  rw [List.any_eq_true]; exact ⟨_, List.getElem_mem h, hp⟩
theorem any_none {α : Type} {p : α → Bool} {l : List α} (h : ∀ j (hj : j < l.length), p (l[j]'hj) = false) : l.any p = false := by
  rw [List.any_eq_false]
  intro x hx
  obtain ⟨j, hj, rfl⟩ := List.getElem_of_mem hx
  simp [h j hj]

theorem w1 {i : Nat} (h : (i : Int) < 9223372036854775807) : IntKind.i64.wrap ((i : Int) + 1) = ((i + 1 : Nat) : Int) := by
  rw [wrap_id (by omega) (by omega)]; rfl

theorem c_HeavyEntries (l : List Ent) : Ctr Try.prog 68 [.sl 16 (l.map Ent.enc)] (bv (heavyEs l)) [] := by
  refine spec_of_body mixed Try.func68 rfl (by kernel_rfl) (by kernel_rfl) ?_; conv => whnf
  ((first | (with_reducible refine split_dec (fun h => ?_) (fun h => ?_)) | (with_reducible refine split_beq (fun h => ?_) (fun h => ?_)) | (with_reducible refine split_bne (fun h => ?_) (fun h => ?_)) | (with_reducible refine split_not (fun h => ?_) (fun h => ?_)) | (with_reducible refine split_beqS (fun h => ?_) (fun h => ?_)) | (with_reducible refine split_intro (fun h => ?_) (fun h => ?_))) <;> conv => whnf)
  · exact exit_plain rfl (by simp at h; simp [heavyEs, h])
  · have hl : l.length ≤ 200 := by simp at h; omega
    refine tri_for0 mixed (by kernel_rfl) (fun i : Nat => i ≤ l.length ∧ ∀ j (hj : j < l.length), j < i → heavyCmd (l[j]'hj).call.cmd = false) (fun i => [(3, iv i)]) [] (fun i => l.length - i) 0 ⟨Nat.zero_le _, fun j _ h => absurd h (Nat.not_lt_zero _)⟩ ?_ ?_
    · conv => whnf
      (refine And.intro (And.intro (by with_unfolding_all rfl) (by intro q h; cases h)) ?_; refine And.intro ?_ (And.intro ?_ ?_) <;> (conv => whnf) <;> (repeat' (first | exact True.intro | (with_reducible exact rfl) | exact (rfl : List.replicate 0 PV.bad = []) | ((with_reducible refine And.intro ?_ ?_) <;> (first | (with_reducible exact wkV_same _ rfl) | exact wkV_pt rfl rfl | exact wkV_ow rfl rfl rfl | (refine wkV_ow rfl rfl ?_) | (refine wkV_sc (congrArg (Value.int .i64) ?_)) | (refine wkV_sc (congrArg Value.bool ?_)) | exact wkV_ls rfl | ((refine wkV_cl ?_); conv => whnf) | ((refine wkV_tu ?_); conv => whnf) | ((refine wkV_ag ?_); conv => whnf) | (conv => whnf))))))
      all_goals rfl
    · rintro i ⟨hi, hp⟩
      conv => whnf
      ((first | (with_reducible refine split_dec (fun h => ?_) (fun h => ?_)) | (with_reducible refine split_beq (fun h => ?_) (fun h => ?_)) | (with_reducible refine split_bne (fun h => ?_) (fun h => ?_)) | (with_reducible refine split_not (fun h => ?_) (fun h => ?_)) | (with_reducible refine split_beqS (fun h => ?_) (fun h => ?_)) | (with_reducible refine split_intro (fun h => ?_) (fun h => ?_))) <;> conv => whnf)
      · have hlt : i < l.length := by simp at h; omega
        refine ⟨by omega, _, row_at hlt, ?_⟩
        conv => whnf
        ((try ((refine Exists.intro none ?_); (conv => whnf))); first | ((with_reducible refine call_by (c_HeavyCmd (l[i]'hlt).call.cmd) ?_); conv => whnf))
        ((first | (with_reducible refine split_dec (fun h => ?_) (fun h => ?_)) | (with_reducible refine split_beq (fun h => ?_) (fun h => ?_)) | (with_reducible refine split_bne (fun h => ?_) (fun h => ?_)) | (with_reducible refine split_not (fun h => ?_) (fun h => ?_)) | (with_reducible refine split_beqS (fun h => ?_) (fun h => ?_)) | (with_reducible refine split_intro (fun h => ?_) (fun h => ?_))) <;> conv => whnf)
        · exact exit_plain rfl (by
            have := any_at (p := fun x : Ent => heavyCmd x.call.cmd) hlt h
            simp only [heavyEs, this, Bool.or_true])
        · refine ⟨i + 1, ⟨⟨by omega, ?_⟩, by omega⟩, ?_⟩
          · intro j hj hji
            by_cases e : j = i
            · subst e; exact h
            · exact hp j hj (by omega)
          · conv => whnf
            (refine And.intro (And.intro (by with_unfolding_all rfl) (by intro q h; cases h)) ?_; refine And.intro ?_ (And.intro ?_ ?_) <;> (conv => whnf) <;> (repeat' (first | exact True.intro | (with_reducible exact rfl) | exact (rfl : List.replicate 0 PV.bad = []) | ((with_reducible refine And.intro ?_ ?_) <;> (first | (with_reducible exact wkV_same _ rfl) | exact wkV_pt rfl rfl | exact wkV_ow rfl rfl rfl | (refine wkV_ow rfl rfl ?_) | (refine wkV_sc (congrArg (Value.int .i64) ?_)) | (refine wkV_sc (congrArg Value.bool ?_)) | exact wkV_ls rfl | ((refine wkV_cl ?_); conv => whnf) | ((refine wkV_tu ?_); conv => whnf) | ((refine wkV_ag ?_); conv => whnf) | (conv => whnf))))))
            exact w1 (by omega)
      · have : i = l.length := by simp at h; omega
        subst this
        refine exit_plain rfl ?_
        have := any_none (p := fun x : Ent => heavyCmd x.call.cmd) fun j hj => hp j hj hj
        simp only [heavyEs, this, Bool.or_false]
        rw [decide_eq_false (by omega)]

def heavyH (h : Hrd) : Bool := heavyEs h.log || decide (32768 < (h.snap.length : Int))
theorem c_Heavy09 (h : Hrd) : Ctr Try.prog 38 [.ag h.enc] (bv (heavyH h)) [] := by
  refine spec_of_body mixed Try.func38 rfl (by kernel_rfl) (by kernel_rfl) ?_; conv => whnf
  ((try ((refine Exists.intro none ?_); (conv => whnf))); first | ((with_reducible refine call_by (c_HeavyEntries h.log) ?_); conv => whnf))
  ((first | (with_reducible refine split_dec (fun h => ?_) (fun h => ?_)) | (with_reducible refine split_beq (fun h => ?_) (fun h => ?_)) | (with_reducible refine split_bne (fun h => ?_) (fun h => ?_)) | (with_reducible refine split_not (fun h => ?_) (fun h => ?_)) | (with_reducible refine split_beqS (fun h => ?_) (fun h => ?_)) | (with_reducible refine split_intro (fun h => ?_) (fun h => ?_))) <;> conv => whnf)
  all_goals (refine exit_plain rfl ?_; simp [heavyH, *])

def heavyR (r : Rft) : Bool := heavyH r.hard || (decide (200 < (r.reads.length : Int)) || (decide (r.hard.base < 0) || decide (1099511627776 < r.hard.base)))
theorem c_Heavy15 (r : Rft) : Ctr Try.prog 17 [.ag r.enc] (bv (heavyR r)) [] := by
  refine spec_of_body mixed Try.func17 rfl (by kernel_rfl) (by kernel_rfl) ?_; conv => whnf
  ((try ((refine Exists.intro none ?_); (conv => whnf))); first | ((with_reducible refine call_by (c_Heavy09 r.hard) ?_); conv => whnf))
  repeat' ((first | (with_reducible refine split_dec (fun h => ?_) (fun h => ?_)) | (with_reducible refine split_beq (fun h => ?_) (fun h => ?_)) | (with_reducible refine split_bne (fun h => ?_) (fun h => ?_)) | (with_reducible refine split_not (fun h => ?_) (fun h => ?_)) | (with_reducible refine split_beqS (fun h => ?_) (fun h => ?_)) | (with_reducible refine split_intro (fun h => ?_) (fun h => ?_))) <;> conv => whnf)
  all_goals (simp only [List.length_map] at *; refine exit_plain rfl ?_; simp [heavyR, *])

def heavyF (m : Mg) : Bool := heavyEs m.entries || decide (32768 < (m.snap.length : Int))
theorem c_flat10 (m : Mg) : Ctr Try.prog 39 [.ag m.enc] (bv (heavyF m)) [] := by
  refine spec_of_body mixed Try.func39 rfl (by kernel_rfl) (by kernel_rfl) ?_; conv => whnf
  ((try ((refine Exists.intro none ?_); (conv => whnf))); first | ((with_reducible refine call_by (c_HeavyEntries m.entries) ?_); conv => whnf))
  ((first | (with_reducible refine split_dec (fun h => ?_) (fun h => ?_)) | (with_reducible refine split_beq (fun h => ?_) (fun h => ?_)) | (with_reducible refine split_bne (fun h => ?_) (fun h => ?_)) | (with_reducible refine split_not (fun h => ?_) (fun h => ?_)) | (with_reducible refine split_beqS (fun h => ?_) (fun h => ?_)) | (with_reducible refine split_intro (fun h => ?_) (fun h => ?_))) <;> conv => whnf)
  all_goals (refine exit_plain rfl ?_; simp [heavyF, *])

/-- The messages within. -/
noncomputable def Mg.inn (m : Mg) : List Mg := Classical.epsilon fun zs : List Mg => m.inner = zs.map Mg.enc ∧ ∀ z ∈ zs, z.ok
theorem Mg.inn_spec {m : Mg} (h : m.ok) : m.inner = m.inn.map Mg.enc ∧ ∀ z ∈ m.inn, z.ok :=
  Classical.epsilon_spec (p := fun zs : List Mg => m.inner = zs.map Mg.enc ∧ ∀ z ∈ zs, z.ok) (rows_map fun r hr => ty_Mg (h.2.2.2.2.2.2.2.2.2.2.2.2 r hr))

noncomputable def heavyM1 (m : Mg) : Bool := heavyF m || (decide (3 < (m.inn.length : Int)) || m.inn.any heavyF)
noncomputable def heavyM (m : Mg) : Bool := heavyF m || (decide (20 < (m.inn.length : Int)) || m.inn.any heavyM1)

set_option maxHeartbeats 1000000 in
theorem c_HeavyMsg (m : Mg) (hm : m.ok) : Ctr Try.prog 18 [.ag m.enc] (bv (heavyM m)) [] := by
  obtain ⟨e, hok⟩ := Mg.inn_spec hm
  have hlen : m.inner.length = m.inn.length := by rw [e]; simp
  refine spec_of_body mixed Try.func18 rfl (by kernel_rfl) (by kernel_rfl) ?_; conv => whnf
  ((try ((refine Exists.intro none ?_); (conv => whnf))); first | ((with_reducible refine call_by (c_flat10 m) ?_); conv => whnf))
  ((first | (with_reducible refine split_dec (fun h => ?_) (fun h => ?_)) | (with_reducible refine split_beq (fun h => ?_) (fun h => ?_)) | (with_reducible refine split_bne (fun h => ?_) (fun h => ?_)) | (with_reducible refine split_not (fun h => ?_) (fun h => ?_)) | (with_reducible refine split_beqS (fun h => ?_) (fun h => ?_)) | (with_reducible refine split_intro (fun h => ?_) (fun h => ?_))) <;> conv => whnf)
  · exact exit_plain rfl (by simp [heavyM, h])
  have h0 := h
  ((first | (with_reducible refine split_dec (fun h => ?_) (fun h => ?_)) | (with_reducible refine split_beq (fun h => ?_) (fun h => ?_)) | (with_reducible refine split_bne (fun h => ?_) (fun h => ?_)) | (with_reducible refine split_not (fun h => ?_) (fun h => ?_)) | (with_reducible refine split_beqS (fun h => ?_) (fun h => ?_)) | (with_reducible refine split_intro (fun h => ?_) (fun h => ?_))) <;> conv => whnf)
  · rename_i h1
    exact exit_plain rfl (by rw [hlen] at h; simp [heavyM, h])
  · rename_i h1
    rw [hlen] at h
    refine tri_for0 mixed (by kernel_rfl) (fun i : Nat => i ≤ m.inn.length ∧ ∀ j (hj : j < m.inn.length), j < i → heavyM1 (m.inn[j]'hj) = false) (fun i => [(3, iv i)]) [] (fun i => m.inn.length - i) 0 ⟨Nat.zero_le _, fun j _ h => absurd h (Nat.not_lt_zero _)⟩ ?_ ?_
    · conv => whnf
      (refine And.intro (And.intro (by with_unfolding_all rfl) (by intro q h; cases h)) ?_; refine And.intro ?_ (And.intro ?_ ?_) <;> (conv => whnf) <;> (repeat' (first | exact True.intro | (with_reducible exact rfl) | exact (rfl : List.replicate 0 PV.bad = []) | ((with_reducible refine And.intro ?_ ?_) <;> (first | (with_reducible exact wkV_same _ rfl) | exact wkV_pt rfl rfl | exact wkV_ow rfl rfl rfl | (refine wkV_ow rfl rfl ?_) | (refine wkV_sc (congrArg (Value.int .i64) ?_)) | (refine wkV_sc (congrArg Value.bool ?_)) | exact wkV_ls rfl | ((refine wkV_cl ?_); conv => whnf) | ((refine wkV_tu ?_); conv => whnf) | ((refine wkV_ag ?_); conv => whnf) | (conv => whnf))))))
      all_goals rfl
    · rintro i ⟨hi, hp⟩
      conv => whnf
      ((first | (with_reducible refine split_dec (fun h => ?_) (fun h => ?_)) | (with_reducible refine split_beq (fun h => ?_) (fun h => ?_)) | (with_reducible refine split_bne (fun h => ?_) (fun h => ?_)) | (with_reducible refine split_not (fun h => ?_) (fun h => ?_)) | (with_reducible refine split_beqS (fun h => ?_) (fun h => ?_)) | (with_reducible refine split_intro (fun h => ?_) (fun h => ?_))) <;> conv => whnf)
      · rw [hlen] at h
        have hlt : i < m.inn.length := by omega
        have hrow : m.inner[((i : Nat) : Int).toNat]? = some (m.inn[i]'hlt).enc := by rw [e]; exact row_at hlt
        obtain ⟨e2, hok2⟩ := Mg.inn_spec (hok _ (List.getElem_mem hlt))
        generalize hy : m.inn[i]'hlt = y at *
        have hlen2 : y.inner.length = y.inn.length := by rw [e2]; simp
        have stop : heavyM1 y = true → heavyM m = true := fun hh => by
          have := any_at (p := heavyM1) hlt (by rw [hy]; exact hh)
          simp [heavyM, this]
        refine ⟨by omega, _, hrow, ?_⟩
        conv => whnf
        ((try ((refine Exists.intro none ?_); (conv => whnf))); first | ((with_reducible refine call_by (c_flat10 y) ?_); conv => whnf))
        ((first | (with_reducible refine split_dec (fun h => ?_) (fun h => ?_)) | (with_reducible refine split_beq (fun h => ?_) (fun h => ?_)) | (with_reducible refine split_bne (fun h => ?_) (fun h => ?_)) | (with_reducible refine split_not (fun h => ?_) (fun h => ?_)) | (with_reducible refine split_beqS (fun h => ?_) (fun h => ?_)) | (with_reducible refine split_intro (fun h => ?_) (fun h => ?_))) <;> conv => whnf)
        · exact exit_plain rfl (by rw [stop (by simp [heavyM1, h])])
        rename_i h2 h3
        refine ⟨by omega, _, hrow, ?_⟩
        conv => whnf
        ((first | (with_reducible refine split_dec (fun h => ?_) (fun h => ?_)) | (with_reducible refine split_beq (fun h => ?_) (fun h => ?_)) | (with_reducible refine split_bne (fun h => ?_) (fun h => ?_)) | (with_reducible refine split_not (fun h => ?_) (fun h => ?_)) | (with_reducible refine split_beqS (fun h => ?_) (fun h => ?_)) | (with_reducible refine split_intro (fun h => ?_) (fun h => ?_))) <;> conv => whnf)
        · rw [hlen2] at h
          exact exit_plain rfl (by rw [stop (by simp [heavyM1, h])])
        rename_i h4
        rw [hlen2] at h
        refine tri_for0 mixed (by kernel_rfl) (fun k : Nat => k ≤ y.inn.length ∧ ∀ j (hj : j < y.inn.length), j < k → heavyF (y.inn[j]'hj) = false) (fun k => [(4, iv k)]) [] (fun k => y.inn.length - k) 0 ⟨Nat.zero_le _, fun j _ h => absurd h (Nat.not_lt_zero _)⟩ ?_ ?_
        · conv => whnf
          (refine And.intro (And.intro (by with_unfolding_all rfl) (by intro q h; cases h)) ?_; refine And.intro ?_ (And.intro ?_ ?_) <;> (conv => whnf) <;> (repeat' (first | exact True.intro | (with_reducible exact rfl) | exact (rfl : List.replicate 0 PV.bad = []) | ((with_reducible refine And.intro ?_ ?_) <;> (first | (with_reducible exact wkV_same _ rfl) | exact wkV_pt rfl rfl | exact wkV_ow rfl rfl rfl | (refine wkV_ow rfl rfl ?_) | (refine wkV_sc (congrArg (Value.int .i64) ?_)) | (refine wkV_sc (congrArg Value.bool ?_)) | exact wkV_ls rfl | ((refine wkV_cl ?_); conv => whnf) | ((refine wkV_tu ?_); conv => whnf) | ((refine wkV_ag ?_); conv => whnf) | (conv => whnf))))))
          all_goals rfl
        · rintro k ⟨hk, hq⟩
          conv => whnf
          refine ⟨by omega, _, hrow, ?_⟩
          conv => whnf
          ((first | (with_reducible refine split_dec (fun h => ?_) (fun h => ?_)) | (with_reducible refine split_beq (fun h => ?_) (fun h => ?_)) | (with_reducible refine split_bne (fun h => ?_) (fun h => ?_)) | (with_reducible refine split_not (fun h => ?_) (fun h => ?_)) | (with_reducible refine split_beqS (fun h => ?_) (fun h => ?_)) | (with_reducible refine split_intro (fun h => ?_) (fun h => ?_))) <;> conv => whnf)
          · rw [hlen2] at h
            have hlt2 : k < y.inn.length := by omega
            have hrow2 : y.inner[((k : Nat) : Int).toNat]? = some (y.inn[k]'hlt2).enc := by rw [e2]; exact row_at hlt2
            refine ⟨by omega, _, hrow, ?_⟩
            conv => whnf
            refine ⟨by omega, _, hrow2, ?_⟩
            conv => whnf
            ((try ((refine Exists.intro none ?_); (conv => whnf))); first | ((with_reducible refine call_by (c_flat10 (y.inn[k]'hlt2)) ?_); conv => whnf))
            ((first | (with_reducible refine split_dec (fun h => ?_) (fun h => ?_)) | (with_reducible refine split_beq (fun h => ?_) (fun h => ?_)) | (with_reducible refine split_bne (fun h => ?_) (fun h => ?_)) | (with_reducible refine split_not (fun h => ?_) (fun h => ?_)) | (with_reducible refine split_beqS (fun h => ?_) (fun h => ?_)) | (with_reducible refine split_intro (fun h => ?_) (fun h => ?_))) <;> conv => whnf)
            · exact exit_plain rfl (by rw [stop (by simp [heavyM1, any_at (p := heavyF) hlt2 h])])
            · refine ⟨k + 1, ⟨⟨by omega, ?_⟩, by omega⟩, ?_⟩
              · intro j hj hji
                by_cases e : j = k
                · subst e; exact h
                · exact hq j hj (by omega)
              · conv => whnf
                (refine And.intro (And.intro (by with_unfolding_all rfl) (by intro q h; cases h)) ?_; refine And.intro ?_ (And.intro ?_ ?_) <;> (conv => whnf) <;> (repeat' (first | exact True.intro | (with_reducible exact rfl) | exact (rfl : List.replicate 0 PV.bad = []) | ((with_reducible refine And.intro ?_ ?_) <;> (first | (with_reducible exact wkV_same _ rfl) | exact wkV_pt rfl rfl | exact wkV_ow rfl rfl rfl | (refine wkV_ow rfl rfl ?_) | (refine wkV_sc (congrArg (Value.int .i64) ?_)) | (refine wkV_sc (congrArg Value.bool ?_)) | exact wkV_ls rfl | ((refine wkV_cl ?_); conv => whnf) | ((refine wkV_tu ?_); conv => whnf) | ((refine wkV_ag ?_); conv => whnf) | (conv => whnf))))))
                exact w1 (by omega)
          · rw [hlen2] at h
            have : k = y.inn.length := by omega
            subst this
            have hn := any_none (p := heavyF) fun j hj => hq j hj hj
            have hy1 : heavyM1 y = false := by simp [heavyM1, hn, *]
            refine ⟨i + 1, ⟨⟨by omega, ?_⟩, by omega⟩, ?_⟩
            · intro j hj hji
              by_cases e : j = i
              · subst e; rw [hy]; exact hy1
              · exact hp j hj (by omega)
            · conv => whnf
              (refine And.intro (And.intro (by with_unfolding_all rfl) (by intro q h; cases h)) ?_; refine And.intro ?_ (And.intro ?_ ?_) <;> (conv => whnf) <;> (repeat' (first | exact True.intro | (with_reducible exact rfl) | exact (rfl : List.replicate 0 PV.bad = []) | ((with_reducible refine And.intro ?_ ?_) <;> (first | (with_reducible exact wkV_same _ rfl) | exact wkV_pt rfl rfl | exact wkV_ow rfl rfl rfl | (refine wkV_ow rfl rfl ?_) | (refine wkV_sc (congrArg (Value.int .i64) ?_)) | (refine wkV_sc (congrArg Value.bool ?_)) | exact wkV_ls rfl | ((refine wkV_cl ?_); conv => whnf) | ((refine wkV_tu ?_); conv => whnf) | ((refine wkV_ag ?_); conv => whnf) | (conv => whnf))))))
              exact w1 (by omega)
      · rw [hlen] at h
        have : i = m.inn.length := by omega
        subst this
        refine exit_plain rfl ?_
        have := any_none (p := heavyM1) fun j hj => hp j hj hj
        simp only [heavyM, this, h0, Bool.or_false]
        rw [decide_eq_false (by omega)]; rfl
end Go.Proofs

/- Contracts of functions: a log's last entry, newer logs, votes. -/
namespace Go.Proofs
open Go.Pv
set_option maxRecDepth 100000

def lastT (h : Hrd) : Int := match h.log.getLast? with
  | none => h.baseTerm
  | some x => x.term
def lastI (h : Hrd) : Int := if h.log.length = 0 then h.base else w64 (h.base + h.log.length)

theorem last_at {l : List Ent} (h : l.length ≠ 0) (hm : l.length ≤ maxLen) : 0 ≤ w64 ((l.length : Int) - 1) ∧ (l.map Ent.enc)[(w64 ((l.length : Int) - 1)).toNat]? = some (l.getLast (by intro e; rw [e] at h; exact h rfl)).enc := by
  have hm' : l.length ≤ 9223372036854775807 := Nat.le_trans hm (by decide)
  rw [show w64 ((l.length : Int) - 1) = ((l.length - 1 : Nat) : Int) from by rw [show w64 ((l.length : Int) - 1) = (l.length : Int) - 1 from wrap_id (by omega) (by omega)]; omega]
  refine ⟨by omega, ?_⟩
  rw [row_at (by omega), List.getLast_eq_getElem]

theorem lastT_some {h : Hrd} (hl : h.log ≠ []) : lastT h = (h.log.getLast hl).term := by
  unfold lastT; first | rw [List.getLast?_eq_some_getLast hl] | rw [List.getLast?_eq_getLast hl] | rw [List.getLast?_eq_getLast_of_ne_nil hl]

theorem c_Last (a : Hrd) (hm : a.log.length ≤ maxLen) : Ctr Try.prog 52 [.ag a.enc] (.tu [iv (lastI a), iv (lastT a)]) [] := by
  refine spec_of_body mixed Try.func52 rfl (by kernel_rfl) (by kernel_rfl) ?_; conv => whnf
  ((first | (with_reducible refine split_dec (fun h => ?_) (fun h => ?_)) | (with_reducible refine split_beq (fun h => ?_) (fun h => ?_)) | (with_reducible refine split_bne (fun h => ?_) (fun h => ?_)) | (with_reducible refine split_not (fun h => ?_) (fun h => ?_)) | (with_reducible refine split_beqS (fun h => ?_) (fun h => ?_)) | (with_reducible refine split_intro (fun h => ?_) (fun h => ?_))) <;> conv => whnf)
  · have h0 : a.log = [] := by
      simp only [List.length_map] at *
      exact List.eq_nil_of_length_eq_zero (by omega)
    refine exit_plain rfl ?_
    simp [lastI, lastT, h0]
  · simp only [List.length_map] at *
    obtain ⟨h1, h2⟩ := last_at (l := a.log) (by omega) hm
    refine ⟨h1, _, h2, ?_⟩
    conv => whnf
    refine exit_plain rfl ?_
    have hne : a.log ≠ [] := fun e => by simp_all
    rw [lastT_some hne, lastI, if_neg (by omega)]

theorem c_rLast (a : Hrd) (hm : a.log.length ≤ maxLen) : Ctr Try.prog 20 [.ag a.enc] (.tu [iv (lastI a), iv (lastT a)]) [] := by
  refine spec_of_body mixed Try.func20 rfl (by kernel_rfl) (by kernel_rfl) ?_; conv => whnf
  ((first | (with_reducible refine split_dec (fun h => ?_) (fun h => ?_)) | (with_reducible refine split_beq (fun h => ?_) (fun h => ?_)) | (with_reducible refine split_bne (fun h => ?_) (fun h => ?_)) | (with_reducible refine split_not (fun h => ?_) (fun h => ?_)) | (with_reducible refine split_beqS (fun h => ?_) (fun h => ?_)) | (with_reducible refine split_intro (fun h => ?_) (fun h => ?_))) <;> conv => whnf)
  · have h0 : a.log = [] := by
      simp only [List.length_map] at *
      exact List.eq_nil_of_length_eq_zero (by omega)
    refine exit_plain rfl ?_
    simp [lastI, lastT, h0]
  · simp only [List.length_map] at *
    obtain ⟨h1, h2⟩ := last_at (l := a.log) (by omega) hm
    refine ⟨h1, _, h2, ?_⟩
    conv => whnf
    refine exit_plain rfl ?_
    have hne : a.log ≠ [] := fun e => by simp_all
    rw [lastT_some hne, lastI, if_neg (by omega)]

def newer (h : Hrd) (i t : Int) : Bool := decide (lastT h < t) || (t == lastT h && decide (lastI h ≤ i))
theorem c_Newer (h : Hrd) (hm : h.log.length ≤ maxLen) (i t : Int) : Ctr Try.prog 90 [.ag h.enc, iv i, iv t] (bv (newer h i t)) [] := by
  refine spec_of_body mixed Try.func90 rfl (by kernel_rfl) (by kernel_rfl) ?_; conv => whnf
  ((try ((refine Exists.intro none ?_); (conv => whnf))); first | ((with_reducible refine call_by (c_Last h hm) ?_); conv => whnf))
  repeat' ((first | (with_reducible refine split_dec (fun h => ?_) (fun h => ?_)) | (with_reducible refine split_beq (fun h => ?_) (fun h => ?_)) | (with_reducible refine split_bne (fun h => ?_) (fun h => ?_)) | (with_reducible refine split_not (fun h => ?_) (fun h => ?_)) | (with_reducible refine split_beqS (fun h => ?_) (fun h => ?_)) | (with_reducible refine split_intro (fun h => ?_) (fun h => ?_))) <;> conv => whnf)
  all_goals (refine exit_plain rfl ?_; simp [newer, *])
def asked (r : Rft) (m : Mg) : Bool := decide (r.hard.term < m.term) && (r.role != 3 && (decide (6 ≤ r.quiet) && newer r.hard m.index m.logTerm))
theorem c_Asked (r : Rft) (hm : r.hard.log.length ≤ maxLen) (m : Mg) : Ctr Try.prog 89 [.ag r.enc, .ag m.enc] (bv (asked r m)) [] := by
  refine spec_of_body mixed Try.func89 rfl (by kernel_rfl) (by kernel_rfl) ?_; conv => whnf
  repeat' (first | ((try ((refine Exists.intro none ?_); (conv => whnf))); first | ((with_reducible refine call_by (c_Newer r.hard hm _ _) ?_); conv => whnf)) | ((first | (with_reducible refine split_dec (fun h => ?_) (fun h => ?_)) | (with_reducible refine split_beq (fun h => ?_) (fun h => ?_)) | (with_reducible refine split_bne (fun h => ?_) (fun h => ?_)) | (with_reducible refine split_not (fun h => ?_) (fun h => ?_)) | (with_reducible refine split_beqS (fun h => ?_) (fun h => ?_)) | (with_reducible refine split_intro (fun h => ?_) (fun h => ?_))) <;> conv => whnf))
  all_goals (refine exit_plain rfl ?_; simp [asked, *])
def voted (r : Rft) (m : Mg) : Bool := m.term == r.hard.term && ((r.hard.vote == -1 || r.hard.vote == m.frm) && newer r.hard m.index m.logTerm)
theorem c_Voted (r : Rft) (hm : r.hard.log.length ≤ maxLen) (m : Mg) : Ctr Try.prog 72 [.ag r.enc, .ag m.enc] (bv (voted r m)) [] := by
  refine spec_of_body mixed Try.func72 rfl (by kernel_rfl) (by kernel_rfl) ?_; conv => whnf
  repeat' (first | ((try ((refine Exists.intro none ?_); (conv => whnf))); first | ((with_reducible refine call_by (c_Newer r.hard hm _ _) ?_); conv => whnf)) | ((first | (with_reducible refine split_dec (fun h => ?_) (fun h => ?_)) | (with_reducible refine split_beq (fun h => ?_) (fun h => ?_)) | (with_reducible refine split_bne (fun h => ?_) (fun h => ?_)) | (with_reducible refine split_not (fun h => ?_) (fun h => ?_)) | (with_reducible refine split_beqS (fun h => ?_) (fun h => ?_)) | (with_reducible refine split_intro (fun h => ?_) (fun h => ?_))) <;> conv => whnf))
  all_goals (refine exit_plain rfl ?_; simp [voted, *])
end Go.Proofs

/- Contracts of functions: the configuration in force. -/
namespace Go.Proofs
open Go.Pv
set_option maxRecDepth 100000

/-- The index of the k-th entry, as the code tells it. -/
abbrev idx (h : Hrd) (k : Nat) : Int := w64 (w64 (h.base + k) + 1)

/-- The configuration in force among the first i entries. -/
def fwd (h : Hrd) (upto : Int) : Nat → Conf × Int
  | 0 => (h.baseConf, h.base)
  | i + 1 => match h.log[i]? with
    | some x => if idx h i ≤ upto ∧ x.kind = 2 then (x.conf, idx h i) else fwd h upto i
    | none => fwd h upto i
def force (h : Hrd) (upto : Int) : Conf × Int := fwd h upto h.log.length
abbrev civ (x : Conf × Int) : PV := .tu [.ag x.1.enc, iv x.2]

theorem fwd_hit {h : Hrd} {upto : Int} {i : Nat} (hi : i < h.log.length) (h1 : idx h i ≤ upto) (h2 : (h.log[i]'hi).kind = 2) : fwd h upto (i + 1) = ((h.log[i]'hi).conf, idx h i) := by
  simp [fwd, hi, h1, h2]
theorem fwd_miss {h : Hrd} {upto : Int} {i : Nat} (hi : i < h.log.length) (h1 : ¬ (idx h i ≤ upto ∧ (h.log[i]'hi).kind = 2)) : fwd h upto (i + 1) = fwd h upto i := by
  simp only [fwd, List.getElem?_eq_getElem hi, h1, if_false]

theorem c_lConf (a : Hrd) (hm : a.log.length ≤ maxLen) (upto : Int) : Ctr Try.prog 53 [.ag a.enc, iv upto] (civ (force a upto)) [] := by
  have hm' : a.log.length ≤ 9223372036854775807 := Nat.le_trans hm (by decide)
  refine spec_of_body mixed Try.func53 rfl (by kernel_rfl) (by kernel_rfl) ?_; conv => whnf
  refine tri_for0 mixed (by kernel_rfl) (fun i : Nat => i ≤ a.log.length ∧ fwd a upto i = force a upto) (fun i => [(6, iv ((i : Int) - 1))]) [] (fun i => i) a.log.length ⟨Nat.le_refl _, rfl⟩ ?_ ?_
  · conv => whnf
    (refine And.intro (And.intro (by with_unfolding_all rfl) (by intro q h; cases h)) ?_; refine And.intro ?_ (And.intro ?_ ?_) <;> (conv => whnf) <;> (repeat' (first | exact True.intro | (with_reducible exact rfl) | exact (rfl : List.replicate 0 PV.bad = []) | ((with_reducible refine And.intro ?_ ?_) <;> (first | (with_reducible exact wkV_same _ rfl) | exact wkV_pt rfl rfl | exact wkV_ow rfl rfl rfl | (refine wkV_ow rfl rfl ?_) | (refine wkV_sc (congrArg (Value.int .i64) ?_)) | (refine wkV_sc (congrArg Value.bool ?_)) | exact wkV_ls rfl | ((refine wkV_cl ?_); conv => whnf) | ((refine wkV_tu ?_); conv => whnf) | ((refine wkV_ag ?_); conv => whnf) | (conv => whnf))))))
    simp only [List.length_map]; exact wrap_id (by omega) (by omega)
  · rintro i ⟨hi, hf⟩
    conv => whnf
    ((first | (with_reducible refine split_dec (fun h => ?_) (fun h => ?_)) | (with_reducible refine split_beq (fun h => ?_) (fun h => ?_)) | (with_reducible refine split_bne (fun h => ?_) (fun h => ?_)) | (with_reducible refine split_not (fun h => ?_) (fun h => ?_)) | (with_reducible refine split_beqS (fun h => ?_) (fun h => ?_)) | (with_reducible refine split_intro (fun h => ?_) (fun h => ?_))) <;> conv => whnf)
    · obtain ⟨k, rfl⟩ : ∃ k, i = k + 1 := ⟨i - 1, by omega⟩
      have ek : (((k + 1 : Nat) : Int) - 1) = (k : Int) := by omega
      rw [ek]
      have hlt : k < a.log.length := by omega
      refine ⟨by omega, _, row_at hlt, ?_⟩
      conv => whnf
      ((first | (with_reducible refine split_dec (fun h => ?_) (fun h => ?_)) | (with_reducible refine split_beq (fun h => ?_) (fun h => ?_)) | (with_reducible refine split_bne (fun h => ?_) (fun h => ?_)) | (with_reducible refine split_not (fun h => ?_) (fun h => ?_)) | (with_reducible refine split_beqS (fun h => ?_) (fun h => ?_)) | (with_reducible refine split_intro (fun h => ?_) (fun h => ?_))) <;> conv => whnf)
      · rename_i h0
        ((first | (with_reducible refine split_dec (fun h => ?_) (fun h => ?_)) | (with_reducible refine split_beq (fun h => ?_) (fun h => ?_)) | (with_reducible refine split_bne (fun h => ?_) (fun h => ?_)) | (with_reducible refine split_not (fun h => ?_) (fun h => ?_)) | (with_reducible refine split_beqS (fun h => ?_) (fun h => ?_)) | (with_reducible refine split_intro (fun h => ?_) (fun h => ?_))) <;> conv => whnf)
        · refine ⟨by omega, _, row_at hlt, ?_⟩
          conv => whnf
          rename_i h1
          refine exit_plain rfl ?_
          rw [← hf, fwd_hit hlt h h1]
        · rename_i h1
          refine ⟨k, ⟨⟨by omega, ?_⟩, by omega⟩, ?_⟩
          · rw [← hf, fwd_miss hlt (fun x => h x.1)]
          · conv => whnf
            (refine And.intro (And.intro (by with_unfolding_all rfl) (by intro q h; cases h)) ?_; refine And.intro ?_ (And.intro ?_ ?_) <;> (conv => whnf) <;> (repeat' (first | exact True.intro | (with_reducible exact rfl) | exact (rfl : List.replicate 0 PV.bad = []) | ((with_reducible refine And.intro ?_ ?_) <;> (first | (with_reducible exact wkV_same _ rfl) | exact wkV_pt rfl rfl | exact wkV_ow rfl rfl rfl | (refine wkV_ow rfl rfl ?_) | (refine wkV_sc (congrArg (Value.int .i64) ?_)) | (refine wkV_sc (congrArg Value.bool ?_)) | exact wkV_ls rfl | ((refine wkV_cl ?_); conv => whnf) | ((refine wkV_tu ?_); conv => whnf) | ((refine wkV_ag ?_); conv => whnf) | (conv => whnf))))))
            exact wrap_id (by omega) (by omega)
      · rename_i h0
        refine ⟨k, ⟨⟨by omega, ?_⟩, by omega⟩, ?_⟩
        · rw [← hf, fwd_miss hlt (fun x => h x.2)]
        · conv => whnf
          (refine And.intro (And.intro (by with_unfolding_all rfl) (by intro q h; cases h)) ?_; refine And.intro ?_ (And.intro ?_ ?_) <;> (conv => whnf) <;> (repeat' (first | exact True.intro | (with_reducible exact rfl) | exact (rfl : List.replicate 0 PV.bad = []) | ((with_reducible refine And.intro ?_ ?_) <;> (first | (with_reducible exact wkV_same _ rfl) | exact wkV_pt rfl rfl | exact wkV_ow rfl rfl rfl | (refine wkV_ow rfl rfl ?_) | (refine wkV_sc (congrArg (Value.int .i64) ?_)) | (refine wkV_sc (congrArg Value.bool ?_)) | exact wkV_ls rfl | ((refine wkV_cl ?_); conv => whnf) | ((refine wkV_tu ?_); conv => whnf) | ((refine wkV_ag ?_); conv => whnf) | (conv => whnf))))))
          exact wrap_id (by omega) (by omega)
    · have : i = 0 := by omega
      subst this
      refine exit_plain rfl ?_
      rw [← hf]; rfl

theorem c_vConf (r : Rft) (hm : r.hard.log.length ≤ maxLen) : Ctr Try.prog 33 [.ag r.enc] (.ag (force r.hard (lastI r.hard)).1.enc) [] := by
  refine spec_of_body mixed Try.func33 rfl (by kernel_rfl) (by kernel_rfl) ?_; conv => whnf
  ((try ((refine Exists.intro none ?_); (conv => whnf))); first | ((with_reducible refine call_by (c_Last r.hard hm) ?_); conv => whnf))
  ((try ((refine Exists.intro none ?_); (conv => whnf))); first | ((with_reducible refine call_by (c_lConf r.hard hm _) ?_); conv => whnf))
  exact exit_plain rfl rfl
abbrev inForce (r : Rft) : Conf := (force r.hard (lastI r.hard)).1

theorem c_Wins (r : Rft) (hm : r.hard.log.length ≤ maxLen) : Ctr Try.prog 65 [.ag r.enc] (bv (quorum (inForce r) r.votes)) [] := by
  refine spec_of_body mixed Try.func65 rfl (by kernel_rfl) (by kernel_rfl) ?_; conv => whnf
  ((try ((refine Exists.intro none ?_); (conv => whnf))); first | ((with_reducible refine call_by (c_vConf r hm) ?_); conv => whnf))
  ((try ((refine Exists.intro none ?_); (conv => whnf))); first | ((with_reducible refine call_by (c_Quorum (inForce r) _) ?_); conv => whnf))
  exact exit_plain rfl rfl
theorem c_Voter (r : Rft) (hm : r.hard.log.length ≤ maxLen) : Ctr Try.prog 60 [.ag r.enc] (bv (bitB (bor (inForce r).full (inForce r).wit) r.id)) [] := by
  refine spec_of_body mixed Try.func60 rfl (by kernel_rfl) (by kernel_rfl) ?_; conv => whnf
  ((try ((refine Exists.intro none ?_); (conv => whnf))); first | ((with_reducible refine call_by (c_vConf r hm) ?_); conv => whnf))
  ((try ((refine Exists.intro none ?_); (conv => whnf))); first | ((with_reducible refine call_by (c_Voters (inForce r)) ?_); conv => whnf))
  ((try ((refine Exists.intro none ?_); (conv => whnf))); first | ((with_reducible refine call_by (c_bit _ _) ?_); conv => whnf))
  exact exit_plain rfl rfl
theorem c_rDelay (c : Conf) (i : Int) : Ctr Try.prog 15 [.ag c.enc, iv i] (iv (delay c i)) [] := by
  refine spec_of_body mixed Try.func15 rfl (by kernel_rfl) (by kernel_rfl) ?_; conv => whnf
  ((try ((refine Exists.intro none ?_); (conv => whnf))); first | ((with_reducible refine call_by (c_rKind c i) ?_); conv => whnf))
  repeat' ((first | (with_reducible refine split_dec (fun h => ?_) (fun h => ?_)) | (with_reducible refine split_beq (fun h => ?_) (fun h => ?_)) | (with_reducible refine split_bne (fun h => ?_) (fun h => ?_)) | (with_reducible refine split_not (fun h => ?_) (fun h => ?_)) | (with_reducible refine split_beqS (fun h => ?_) (fun h => ?_)) | (with_reducible refine split_intro (fun h => ?_) (fun h => ?_))) <;> conv => whnf)
  all_goals (refine exit_plain rfl ?_; have hf := kind_full c i; have hw := kind_wit c i; rw [Bool.eq_iff_iff, beq_iff_eq] at hf hw; simp_all [delay])
end Go.Proofs

/- Contracts of functions: entries, terms, what fits, what is committed. -/
namespace Go.Proofs
open Go.Pv
set_option maxRecDepth 100000

abbrev bz : ByteArray := ⟨#[]⟩
abbrev vz : VVal := ⟨0, 0, bz⟩
abbrev kz : VCall := ⟨0, 0, ⟨0, bz, vz, vz⟩⟩
abbrev ez : Ent := ⟨0, 0, kz, cz⟩

/-- The entry of an index. -/
def entAt (h : Hrd) (i : Int) : Option Ent := if h.base < i ∧ i - h.base ≤ h.log.length then h.log[(i - h.base - 1).toNat]? else none
theorem entAt_none {h : Hrd} {i : Int} (hh : ¬ (h.base < i ∧ i - h.base ≤ h.log.length)) : entAt h i = none := by
  unfold entAt; rw [if_neg hh]
theorem entAt_some {h : Hrd} {i : Int} (h1 : h.base < i) (h2 : i - h.base ≤ h.log.length) : entAt h i = some (h.log[(i - h.base - 1).toNat]'(by omega)) := by
  unfold entAt; rw [if_pos ⟨h1, h2⟩, List.getElem?_eq_getElem]

theorem row_at' {α : Type} {f : α → List PV} {l : List α} {n : Int} {k : Nat} (hn : n = k) (h : k < l.length) : 0 ≤ n ∧ (l.map f)[n.toNat]? = some (f (l[k]'h)) := by
  subst hn; exact ⟨by omega, row_at h⟩

theorem c_Entry (a : Hrd) (hm : a.log.length ≤ maxLen) (hb : isI a.base) (i : Int) (hi : isI i) : Ctr Try.prog 111 [.ag a.enc, iv i] (.tu [.ag ((entAt a i).getD ez).enc, bv (entAt a i).isSome]) [] := by
  have hm' : a.log.length ≤ 9223372036854775807 := Nat.le_trans hm (by decide)
  unfold isI at hb hi
  refine spec_of_body mixed Try.func111 rfl (by kernel_rfl) (by kernel_rfl) ?_; conv => whnf
  ((first | (with_reducible refine split_dec (fun h => ?_) (fun h => ?_)) | (with_reducible refine split_beq (fun h => ?_) (fun h => ?_)) | (with_reducible refine split_bne (fun h => ?_) (fun h => ?_)) | (with_reducible refine split_not (fun h => ?_) (fun h => ?_)) | (with_reducible refine split_beqS (fun h => ?_) (fun h => ?_)) | (with_reducible refine split_intro (fun h => ?_) (fun h => ?_))) <;> conv => whnf)
  · refine exit_plain rfl ?_
    rw [entAt_none (by omega)]; rfl
  have h0 := h
  ((first | (with_reducible refine split_dec (fun h => ?_) (fun h => ?_)) | (with_reducible refine split_beq (fun h => ?_) (fun h => ?_)) | (with_reducible refine split_bne (fun h => ?_) (fun h => ?_)) | (with_reducible refine split_not (fun h => ?_) (fun h => ?_)) | (with_reducible refine split_beqS (fun h => ?_) (fun h => ?_)) | (with_reducible refine split_intro (fun h => ?_) (fun h => ?_))) <;> conv => whnf)
  · refine exit_plain rfl ?_
    simp only [List.length_map] at h
    rw [entAt_none]
    · rfl
    · rw [wrap64] at h; split at h <;> omega
  have h1 := h
  ((first | (with_reducible refine split_dec (fun h => ?_) (fun h => ?_)) | (with_reducible refine split_beq (fun h => ?_) (fun h => ?_)) | (with_reducible refine split_bne (fun h => ?_) (fun h => ?_)) | (with_reducible refine split_not (fun h => ?_) (fun h => ?_)) | (with_reducible refine split_beqS (fun h => ?_) (fun h => ?_)) | (with_reducible refine split_intro (fun h => ?_) (fun h => ?_))) <;> conv => whnf)
  · refine exit_plain rfl ?_
    simp only [List.length_map] at h h1
    rw [entAt_none]
    · rfl
    · rw [wrap64] at h; split at h <;> omega
  · simp only [List.length_map] at h h1
    have e : IntKind.i64.wrap (i - a.base) = i - a.base := by
      rw [wrap64] at *; split at h <;> split <;> omega
    rw [e] at h h1
    have e2 : IntKind.i64.wrap (IntKind.i64.wrap (i - a.base) - 1) = ((i - a.base - 1).toNat : Int) := by
      rw [e, wrap_id (by omega) (by omega)]; omega
    obtain ⟨r1, r2⟩ := row_at' (f := Ent.enc) (l := a.log) e2 (by omega)
    refine ⟨r1, _, r2, ?_⟩
    conv => whnf
    refine exit_plain rfl ?_
    rw [entAt_some (by omega) (by omega)]; rfl

def termAt (h : Hrd) (i : Int) : Int := if i = h.base then h.baseTerm else match entAt h i with
  | some x => x.term
  | none => -1

theorem c_Term (a : Hrd) (hm : a.log.length ≤ maxLen) (hb : isI a.base) (i : Int) (hi : isI i) : Ctr Try.prog 102 [.ag a.enc, iv i] (iv (termAt a i)) [] := by
  refine spec_of_body mixed Try.func102 rfl (by kernel_rfl) (by kernel_rfl) ?_; conv => whnf
  ((first | (with_reducible refine split_dec (fun h => ?_) (fun h => ?_)) | (with_reducible refine split_beq (fun h => ?_) (fun h => ?_)) | (with_reducible refine split_bne (fun h => ?_) (fun h => ?_)) | (with_reducible refine split_not (fun h => ?_) (fun h => ?_)) | (with_reducible refine split_beqS (fun h => ?_) (fun h => ?_)) | (with_reducible refine split_intro (fun h => ?_) (fun h => ?_))) <;> conv => whnf)
  · exact exit_plain rfl (by rw [termAt, if_pos h])
  have h0 := h
  ((try ((refine Exists.intro none ?_); (conv => whnf))); first | ((with_reducible refine call_by (c_Entry a hm hb i hi) ?_); conv => whnf))
  cases he : entAt a i with
  | none =>
    conv => whnf
    exact exit_plain rfl (by rw [termAt, if_neg h0, he])
  | some x =>
    conv => whnf
    exact exit_plain rfl (by rw [termAt, if_neg h0, he]; rfl)

def fits (h : Hrd) (i t : Int) : Bool := t != -1 && termAt h i == t
theorem c_Fits (a : Hrd) (hm : a.log.length ≤ maxLen) (hb : isI a.base) (i : Int) (hi : isI i) (t : Int) : Ctr Try.prog 99 [.ag a.enc, iv i, iv t] (bv (fits a i t)) [] := by
  refine spec_of_body mixed Try.func99 rfl (by kernel_rfl) (by kernel_rfl) ?_; conv => whnf
  ((first | (with_reducible refine split_dec (fun h => ?_) (fun h => ?_)) | (with_reducible refine split_beq (fun h => ?_) (fun h => ?_)) | (with_reducible refine split_bne (fun h => ?_) (fun h => ?_)) | (with_reducible refine split_not (fun h => ?_) (fun h => ?_)) | (with_reducible refine split_beqS (fun h => ?_) (fun h => ?_)) | (with_reducible refine split_intro (fun h => ?_) (fun h => ?_))) <;> conv => whnf)
  · ((try ((refine Exists.intro none ?_); (conv => whnf))); first | ((with_reducible refine call_by (c_Term a hm hb i hi) ?_); conv => whnf))
    exact exit_plain rfl (by simp [fits, h])
  · exact exit_plain rfl (by simp [fits, h])

/-- The reference's: where no sum wraps. -/
theorem c_rAt (a : Hrd) (hm : a.log.length ≤ maxLen) (hb : 0 ≤ a.base) (hs : a.base + a.log.length < 9223372036854775808) (i : Int) (hi : isI i) : Ctr Try.prog 21 [.ag a.enc, iv i] (.tu [.ag ((entAt a i).getD ez).enc, bv (entAt a i).isSome]) [] := by
  have hm' : a.log.length ≤ 9223372036854775807 := Nat.le_trans hm (by decide)
  unfold isI at hi
  refine spec_of_body mixed Try.func21 rfl (by kernel_rfl) (by kernel_rfl) ?_; conv => whnf
  ((first | (with_reducible refine split_dec (fun h => ?_) (fun h => ?_)) | (with_reducible refine split_beq (fun h => ?_) (fun h => ?_)) | (with_reducible refine split_bne (fun h => ?_) (fun h => ?_)) | (with_reducible refine split_not (fun h => ?_) (fun h => ?_)) | (with_reducible refine split_beqS (fun h => ?_) (fun h => ?_)) | (with_reducible refine split_intro (fun h => ?_) (fun h => ?_))) <;> conv => whnf)
  · refine exit_plain rfl ?_
    rw [entAt_none (by omega)]; rfl
  have h0 := h
  ((first | (with_reducible refine split_dec (fun h => ?_) (fun h => ?_)) | (with_reducible refine split_beq (fun h => ?_) (fun h => ?_)) | (with_reducible refine split_bne (fun h => ?_) (fun h => ?_)) | (with_reducible refine split_not (fun h => ?_) (fun h => ?_)) | (with_reducible refine split_beqS (fun h => ?_) (fun h => ?_)) | (with_reducible refine split_intro (fun h => ?_) (fun h => ?_))) <;> conv => whnf)
  · refine exit_plain rfl ?_
    simp only [List.length_map] at h
    rw [wrap_id (by omega) (by omega)] at h
    rw [entAt_none (by omega)]; rfl
  · simp only [List.length_map] at h
    rw [wrap_id (by omega) (by omega)] at h
    have e2 : IntKind.i64.wrap (IntKind.i64.wrap (i - a.base) - 1) = ((i - a.base - 1).toNat : Int) := by
      rw [wrap_id (n := i - a.base) (by omega) (by omega), wrap_id (by omega) (by omega)]; omega
    obtain ⟨r1, r2⟩ := row_at' (f := Ent.enc) (l := a.log) e2 (by omega)
    refine ⟨r1, _, r2, ?_⟩
    conv => whnf
    refine exit_plain rfl ?_
    rw [entAt_some (by omega) (by omega)]; rfl

end Go.Proofs
