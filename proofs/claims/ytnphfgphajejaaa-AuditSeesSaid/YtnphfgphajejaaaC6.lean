/- Contracts of functions: what is more than is played. -/
import Derived.Test.YtnphfgphajejaaaC1
namespace Go.Proofs
open Go.Pv
set_option maxRecDepth 100000

theorem row_at {α : Type} {f : α → List PV} {l : List α} {i : Nat} (h : i < l.length) : (l.map f)[((i : Nat) : Int).toNat]? = some (f (l[i]'h)) := by
  simp [h]

def heavyCmd (c : VCmd) : Bool := decide (2000 < (c.key.size : Int)) || (decide (2000 < (c.old.text.size : Int)) || decide (2000 < (c.val.text.size : Int)))

theorem c_HeavyCmd (c : VCmd) : Ctr Try.prog 108 [.ag c.enc] (bv (heavyCmd c)) [] := by
  refine spec_of_body mixed Try.func108 rfl (by kernel_rfl) (by kernel_rfl) ?_; conv => whnf
  repeat' ((first | (with_reducible refine split_dec (fun h => ?_) (fun h => ?_)) | (with_reducible refine split_beq (fun h => ?_) (fun h => ?_)) | (with_reducible refine split_bne (fun h => ?_) (fun h => ?_)) | (with_reducible refine split_not (fun h => ?_) (fun h => ?_)) | (with_reducible refine split_beqS (fun h => ?_) (fun h => ?_)) | (with_reducible refine split_intro (fun h => ?_) (fun h => ?_))) <;> conv => whnf)
  all_goals (refine exit_plain rfl ?_; simp [heavyCmd, *])

def heavyEs (l : List Ent) : Bool := decide (200 < (l.length : Int)) || l.any fun x => heavyCmd x.call.cmd

theorem any_at {α : Type} {p : α → Bool} {l : List α} {i : Nat} (h : i < l.length) (hp : p (l[i]'h) = true) : l.any p = true := by
  rw [List.any_eq_true]; exact ⟨_, List.getElem_mem h, hp⟩
theorem any_none {α : Type} {p : α → Bool} {l : List α} (h : ∀ j (hj : j < l.length), p (l[j]'hj) = false) : l.any p = false := by
  rw [List.any_eq_false]
  intro x hx
  obtain ⟨j, hj, rfl⟩ := List.getElem_of_mem hx
  simp [h j hj]

theorem w1 {i : Nat} (h : (i : Int) < 9223372036854775807) : IntKind.i64.wrap ((i : Int) + 1) = ((i + 1 : Nat) : Int) := by
  rw [wrap_id (by omega) (by omega)]; rfl

theorem c_HeavyEntries (l : List Ent) : Ctr Try.prog 89 [.sl 16 (l.map Ent.enc)] (bv (heavyEs l)) [] := by
  refine spec_of_body mixed Try.func89 rfl (by kernel_rfl) (by kernel_rfl) ?_; conv => whnf
  ((first | (with_reducible refine split_dec (fun h => ?_) (fun h => ?_)) | (with_reducible refine split_beq (fun h => ?_) (fun h => ?_)) | (with_reducible refine split_bne (fun h => ?_) (fun h => ?_)) | (with_reducible refine split_not (fun h => ?_) (fun h => ?_)) | (with_reducible refine split_beqS (fun h => ?_) (fun h => ?_)) | (with_reducible refine split_intro (fun h => ?_) (fun h => ?_))) <;> conv => whnf)
  · exact exit_plain rfl (by simp at h; simp [heavyEs, h])
  · have hl : l.length ≤ 200 := by simp at h; omega
    refine tri_for0 mixed (by kernel_rfl) (fun i : Nat => i ≤ l.length ∧ ∀ j (hj : j < l.length), j < i → heavyCmd (l[j]'hj).call.cmd = false) (fun i => [(3, iv i)]) [] (fun i => l.length - i) 0 ⟨Nat.zero_le _, fun j _ h => absurd h (Nat.not_lt_zero _)⟩ ?_ ?_
    · conv => whnf
      (refine And.intro (And.intro (by with_unfolding_all rfl) (by intro q h; cases h)) ?_; refine And.intro ?_ (And.intro ?_ ?_) <;> (conv => whnf) <;> (repeat' (first | exact True.intro | (with_reducible exact rfl) | exact (rfl : List.replicate 0 PV.bad = []) | ((with_reducible refine And.intro ?_ ?_) <;> (first | (with_reducible exact wkV_same _ rfl) | exact wkV_pt rfl rfl | exact wkV_ow rfl rfl rfl | (refine wkV_ow rfl rfl ?_) | (refine wkV_sc (congrArg (Value.int .i64) ?_)) | (refine wkV_sc (congrArg Value.bool ?_)) | exact wkV_ls rfl | ((refine wkV_cl ?_); conv => whnf) | ((refine wkV_tu ?_); conv => whnf) | ((refine wkV_ag ?_); conv => whnf) | (conv => whnf))))))
      all_goals rfl
    · rintro i ⟨hi, hp⟩
      conv => whnf
      ((first | (with_reducible refine split_dec (fun h => ?_) (fun h => ?_)) | (with_reducible refine split_beq (fun h => ?_) (fun h => ?_)) | (with_reducible refine split_bne (fun h => ?_) (fun h => ?_)) | (with_reducible refine split_not (fun h => ?_) (fun h => ?_)) | (with_reducible refine split_beqS (fun h => ?_) (fun h => ?_)) | (with_reducible refine split_intro (fun h => ?_) (fun h => ?_))) <;> conv => whnf)
      · have hlt : i < l.length := by simp at h; omega
        refine ⟨by omega, _, row_at hlt, ?_⟩
        conv => whnf
        ((try ((refine Exists.intro none ?_); (conv => whnf))); first | ((with_reducible refine call_by (c_HeavyCmd (l[i]'hlt).call.cmd) ?_); conv => whnf))
        ((first | (with_reducible refine split_dec (fun h => ?_) (fun h => ?_)) | (with_reducible refine split_beq (fun h => ?_) (fun h => ?_)) | (with_reducible refine split_bne (fun h => ?_) (fun h => ?_)) | (with_reducible refine split_not (fun h => ?_) (fun h => ?_)) | (with_reducible refine split_beqS (fun h => ?_) (fun h => ?_)) | (with_reducible refine split_intro (fun h => ?_) (fun h => ?_))) <;> conv => whnf)
        · exact exit_plain rfl (by
            have := any_at (p := fun x : Ent => heavyCmd x.call.cmd) hlt h
            simp only [heavyEs, this, Bool.or_true])
        · refine ⟨i + 1, ⟨⟨by omega, ?_⟩, by omega⟩, ?_⟩
          · intro j hj hji
            by_cases e : j = i
            · subst e; exact h
            · exact hp j hj (by omega)
          · conv => whnf
            (refine And.intro (And.intro (by with_unfolding_all rfl) (by intro q h; cases h)) ?_; refine And.intro ?_ (And.intro ?_ ?_) <;> (conv => whnf) <;> (repeat' (first | exact True.intro | (with_reducible exact rfl) | exact (rfl : List.replicate 0 PV.bad = []) | ((with_reducible refine And.intro ?_ ?_) <;> (first | (with_reducible exact wkV_same _ rfl) | exact wkV_pt rfl rfl | exact wkV_ow rfl rfl rfl | (refine wkV_ow rfl rfl ?_) | (refine wkV_sc (congrArg (Value.int .i64) ?_)) | (refine wkV_sc (congrArg Value.bool ?_)) | exact wkV_ls rfl | ((refine wkV_cl ?_); conv => whnf) | ((refine wkV_tu ?_); conv => whnf) | ((refine wkV_ag ?_); conv => whnf) | (conv => whnf))))))
            exact w1 (by omega)
      · have : i = l.length := by simp at h; omega
        subst this
        refine exit_plain rfl ?_
        have := any_none (p := fun x : Ent => heavyCmd x.call.cmd) fun j hj => hp j hj hj
        simp only [heavyEs, this, Bool.or_false]
        rw [decide_eq_false (by omega)]

def heavyH (h : Hrd) : Bool := heavyEs h.log || decide (32768 < (h.snap.length : Int))
theorem c_Heavy09 (h : Hrd) : Ctr Try.prog 65 [.ag h.enc] (bv (heavyH h)) [] := by
  refine spec_of_body mixed Try.func65 rfl (by kernel_rfl) (by kernel_rfl) ?_; conv => whnf
  ((try ((refine Exists.intro none ?_); (conv => whnf))); first | ((with_reducible refine call_by (c_HeavyEntries h.log) ?_); conv => whnf))
  ((first | (with_reducible refine split_dec (fun h => ?_) (fun h => ?_)) | (with_reducible refine split_beq (fun h => ?_) (fun h => ?_)) | (with_reducible refine split_bne (fun h => ?_) (fun h => ?_)) | (with_reducible refine split_not (fun h => ?_) (fun h => ?_)) | (with_reducible refine split_beqS (fun h => ?_) (fun h => ?_)) | (with_reducible refine split_intro (fun h => ?_) (fun h => ?_))) <;> conv => whnf)
  all_goals (refine exit_plain rfl ?_; simp [heavyH, *])

def heavyR (r : Rft) : Bool := heavyH r.hard || (decide (200 < (r.reads.length : Int)) || (decide (r.hard.base < 0) || decide (1099511627776 < r.hard.base)))
theorem c_Heavy15 (r : Rft) : Ctr Try.prog 42 [.ag r.enc] (bv (heavyR r)) [] := by
  refine spec_of_body mixed Try.func42 rfl (by kernel_rfl) (by kernel_rfl) ?_; conv => whnf
  ((try ((refine Exists.intro none ?_); (conv => whnf))); first | ((with_reducible refine call_by (c_Heavy09 r.hard) ?_); conv => whnf))
  repeat' ((first | (with_reducible refine split_dec (fun h => ?_) (fun h => ?_)) | (with_reducible refine split_beq (fun h => ?_) (fun h => ?_)) | (with_reducible refine split_bne (fun h => ?_) (fun h => ?_)) | (with_reducible refine split_not (fun h => ?_) (fun h => ?_)) | (with_reducible refine split_beqS (fun h => ?_) (fun h => ?_)) | (with_reducible refine split_intro (fun h => ?_) (fun h => ?_))) <;> conv => whnf)
  all_goals (simp only [List.length_map] at *; refine exit_plain rfl ?_; simp [heavyR, *])

def heavyF (m : Mg) : Bool := heavyEs m.entries || decide (32768 < (m.snap.length : Int))
theorem c_flat10 (m : Mg) : Ctr Try.prog 171 [.ag m.enc] (bv (heavyF m)) [] := by
  refine spec_of_body mixed Try.func171 rfl (by kernel_rfl) (by kernel_rfl) ?_; conv => whnf
  ((try ((refine Exists.intro none ?_); (conv => whnf))); first | ((with_reducible refine call_by (c_HeavyEntries m.entries) ?_); conv => whnf))
  ((first | (with_reducible refine split_dec (fun h => ?_) (fun h => ?_)) | (with_reducible refine split_beq (fun h => ?_) (fun h => ?_)) | (with_reducible refine split_bne (fun h => ?_) (fun h => ?_)) | (with_reducible refine split_not (fun h => ?_) (fun h => ?_)) | (with_reducible refine split_beqS (fun h => ?_) (fun h => ?_)) | (with_reducible refine split_intro (fun h => ?_) (fun h => ?_))) <;> conv => whnf)
  all_goals (refine exit_plain rfl ?_; simp [heavyF, *])

/-- The messages within. -/
noncomputable def Mg.inn (m : Mg) : List Mg := Classical.epsilon fun zs : List Mg => m.inner = zs.map Mg.enc ∧ ∀ z ∈ zs, z.ok
theorem Mg.inn_spec {m : Mg} (h : m.ok) : m.inner = m.inn.map Mg.enc ∧ ∀ z ∈ m.inn, z.ok :=
  Classical.epsilon_spec (p := fun zs : List Mg => m.inner = zs.map Mg.enc ∧ ∀ z ∈ zs, z.ok) (rows_map fun r hr => ty_Mg (h.2.2.2.2.2.2.2.2.2.2.2.2 r hr))

noncomputable def heavyM1 (m : Mg) : Bool := heavyF m || (decide (3 < (m.inn.length : Int)) || m.inn.any heavyF)
noncomputable def heavyM (m : Mg) : Bool := heavyF m || (decide (20 < (m.inn.length : Int)) || m.inn.any heavyM1)

set_option maxHeartbeats 1000000 in
theorem c_HeavyMsg (m : Mg) (hm : m.ok) : Ctr Try.prog 43 [.ag m.enc] (bv (heavyM m)) [] := by
  obtain ⟨e, hok⟩ := Mg.inn_spec hm
  have hlen : m.inner.length = m.inn.length := by rw [e]; simp
  refine spec_of_body mixed Try.func43 rfl (by kernel_rfl) (by kernel_rfl) ?_; conv => whnf
  ((try ((refine Exists.intro none ?_); (conv => whnf))); first | ((with_reducible refine call_by (c_flat10 m) ?_); conv => whnf))
  ((first | (with_reducible refine split_dec (fun h => ?_) (fun h => ?_)) | (with_reducible refine split_beq (fun h => ?_) (fun h => ?_)) | (with_reducible refine split_bne (fun h => ?_) (fun h => ?_)) | (with_reducible refine split_not (fun h => ?_) (fun h => ?_)) | (with_reducible refine split_beqS (fun h => ?_) (fun h => ?_)) | (with_reducible refine split_intro (fun h => ?_) (fun h => ?_))) <;> conv => whnf)
  · exact exit_plain rfl (by simp [heavyM, h])
  have h0 := h
  ((first | (with_reducible refine split_dec (fun h => ?_) (fun h => ?_)) | (with_reducible refine split_beq (fun h => ?_) (fun h => ?_)) | (with_reducible refine split_bne (fun h => ?_) (fun h => ?_)) | (with_reducible refine split_not (fun h => ?_) (fun h => ?_)) | (with_reducible refine split_beqS (fun h => ?_) (fun h => ?_)) | (with_reducible refine split_intro (fun h => ?_) (fun h => ?_))) <;> conv => whnf)
  · rename_i h1
    exact exit_plain rfl (by rw [hlen] at h; simp [heavyM, h])
  · rename_i h1
    rw [hlen] at h
    refine tri_for0 mixed (by kernel_rfl) (fun i : Nat => i ≤ m.inn.length ∧ ∀ j (hj : j < m.inn.length), j < i → heavyM1 (m.inn[j]'hj) = false) (fun i => [(3, iv i)]) [] (fun i => m.inn.length - i) 0 ⟨Nat.zero_le _, fun j _ h => absurd h (Nat.not_lt_zero _)⟩ ?_ ?_
    · conv => whnf
      (refine And.intro (And.intro (by with_unfolding_all rfl) (by intro q h; cases h)) ?_; refine And.intro ?_ (And.intro ?_ ?_) <;> (conv => whnf) <;> (repeat' (first | exact True.intro | (with_reducible exact rfl) | exact (rfl : List.replicate 0 PV.bad = []) | ((with_reducible refine And.intro ?_ ?_) <;> (first | (with_reducible exact wkV_same _ rfl) | exact wkV_pt rfl rfl | exact wkV_ow rfl rfl rfl | (refine wkV_ow rfl rfl ?_) | (refine wkV_sc (congrArg (Value.int .i64) ?_)) | (refine wkV_sc (congrArg Value.bool ?_)) | exact wkV_ls rfl | ((refine wkV_cl ?_); conv => whnf) | ((refine wkV_tu ?_); conv => whnf) | ((refine wkV_ag ?_); conv => whnf) | (conv => whnf))))))
      all_goals rfl
    · rintro i ⟨hi, hp⟩
      conv => whnf
      ((first | (with_reducible refine split_dec (fun h => ?_) (fun h => ?_)) | (with_reducible refine split_beq (fun h => ?_) (fun h => ?_)) | (with_reducible refine split_bne (fun h => ?_) (fun h => ?_)) | (with_reducible refine split_not (fun h => ?_) (fun h => ?_)) | (with_reducible refine split_beqS (fun h => ?_) (fun h => ?_)) | (with_reducible refine split_intro (fun h => ?_) (fun h => ?_))) <;> conv => whnf)
      · rw [hlen] at h
        have hlt : i < m.inn.length := by omega
        have hrow : m.inner[((i : Nat) : Int).toNat]? = some (m.inn[i]'hlt).enc := by rw [e]; exact row_at hlt
        obtain ⟨e2, hok2⟩ := Mg.inn_spec (hok _ (List.getElem_mem hlt))
        generalize hy : m.inn[i]'hlt = y at *
        have hlen2 : y.inner.length = y.inn.length := by rw [e2]; simp
        have stop : heavyM1 y = true → heavyM m = true := fun hh => by
          have := any_at (p := heavyM1) hlt (by rw [hy]; exact hh)
          simp [heavyM, this]
        refine ⟨by omega, _, hrow, ?_⟩
        conv => whnf
        ((try ((refine Exists.intro none ?_); (conv => whnf))); first | ((with_reducible refine call_by (c_flat10 y) ?_); conv => whnf))
        ((first | (with_reducible refine split_dec (fun h => ?_) (fun h => ?_)) | (with_reducible refine split_beq (fun h => ?_) (fun h => ?_)) | (with_reducible refine split_bne (fun h => ?_) (fun h => ?_)) | (with_reducible refine split_not (fun h => ?_) (fun h => ?_)) | (with_reducible refine split_beqS (fun h => ?_) (fun h => ?_)) | (with_reducible refine split_intro (fun h => ?_) (fun h => ?_))) <;> conv => whnf)
        · exact exit_plain rfl (by rw [stop (by simp [heavyM1, h])])
        rename_i h2 h3
        refine ⟨by omega, _, hrow, ?_⟩
        conv => whnf
        ((first | (with_reducible refine split_dec (fun h => ?_) (fun h => ?_)) | (with_reducible refine split_beq (fun h => ?_) (fun h => ?_)) | (with_reducible refine split_bne (fun h => ?_) (fun h => ?_)) | (with_reducible refine split_not (fun h => ?_) (fun h => ?_)) | (with_reducible refine split_beqS (fun h => ?_) (fun h => ?_)) | (with_reducible refine split_intro (fun h => ?_) (fun h => ?_))) <;> conv => whnf)
        · rw [hlen2] at h
          exact exit_plain rfl (by rw [stop (by simp [heavyM1, h])])
        rename_i h4
        rw [hlen2] at h
        refine tri_for0 mixed (by kernel_rfl) (fun k : Nat => k ≤ y.inn.length ∧ ∀ j (hj : j < y.inn.length), j < k → heavyF (y.inn[j]'hj) = false) (fun k => [(4, iv k)]) [] (fun k => y.inn.length - k) 0 ⟨Nat.zero_le _, fun j _ h => absurd h (Nat.not_lt_zero _)⟩ ?_ ?_
        · conv => whnf
          (refine And.intro (And.intro (by with_unfolding_all rfl) (by intro q h; cases h)) ?_; refine And.intro ?_ (And.intro ?_ ?_) <;> (conv => whnf) <;> (repeat' (first | exact True.intro | (with_reducible exact rfl) | exact (rfl : List.replicate 0 PV.bad = []) | ((with_reducible refine And.intro ?_ ?_) <;> (first | (with_reducible exact wkV_same _ rfl) | exact wkV_pt rfl rfl | exact wkV_ow rfl rfl rfl | (refine wkV_ow rfl rfl ?_) | (refine wkV_sc (congrArg (Value.int .i64) ?_)) | (refine wkV_sc (congrArg Value.bool ?_)) | exact wkV_ls rfl | ((refine wkV_cl ?_); conv => whnf) | ((refine wkV_tu ?_); conv => whnf) | ((refine wkV_ag ?_); conv => whnf) | (conv => whnf))))))
          all_goals rfl
        · rintro k ⟨hk, hq⟩
          conv => whnf
          refine ⟨by omega, _, hrow, ?_⟩
          conv => whnf
          ((first | (with_reducible refine split_dec (fun h => ?_) (fun h => ?_)) | (with_reducible refine split_beq (fun h => ?_) (fun h => ?_)) | (with_reducible refine split_bne (fun h => ?_) (fun h => ?_)) | (with_reducible refine split_not (fun h => ?_) (fun h => ?_)) | (with_reducible refine split_beqS (fun h => ?_) (fun h => ?_)) | (with_reducible refine split_intro (fun h => ?_) (fun h => ?_))) <;> conv => whnf)
          · rw [hlen2] at h
            have hlt2 : k < y.inn.length := by omega
            have hrow2 : y.inner[((k : Nat) : Int).toNat]? = some (y.inn[k]'hlt2).enc := by rw [e2]; exact row_at hlt2
            refine ⟨by omega, _, hrow, ?_⟩
            conv => whnf
            refine ⟨by omega, _, hrow2, ?_⟩
            conv => whnf
            ((try ((refine Exists.intro none ?_); (conv => whnf))); first | ((with_reducible refine call_by (c_flat10 (y.inn[k]'hlt2)) ?_); conv => whnf))
            ((first | (with_reducible refine split_dec (fun h => ?_) (fun h => ?_)) | (with_reducible refine split_beq (fun h => ?_) (fun h => ?_)) | (with_reducible refine split_bne (fun h => ?_) (fun h => ?_)) | (with_reducible refine split_not (fun h => ?_) (fun h => ?_)) | (with_reducible refine split_beqS (fun h => ?_) (fun h => ?_)) | (with_reducible refine split_intro (fun h => ?_) (fun h => ?_))) <;> conv => whnf)
            · exact exit_plain rfl (by rw [stop (by simp [heavyM1, any_at (p := heavyF) hlt2 h])])
            · refine ⟨k + 1, ⟨⟨by omega, ?_⟩, by omega⟩, ?_⟩
              · intro j hj hji
                by_cases e : j = k
                · subst e; exact h
                · exact hq j hj (by omega)
              · conv => whnf
                (refine And.intro (And.intro (by with_unfolding_all rfl) (by intro q h; cases h)) ?_; refine And.intro ?_ (And.intro ?_ ?_) <;> (conv => whnf) <;> (repeat' (first | exact True.intro | (with_reducible exact rfl) | exact (rfl : List.replicate 0 PV.bad = []) | ((with_reducible refine And.intro ?_ ?_) <;> (first | (with_reducible exact wkV_same _ rfl) | exact wkV_pt rfl rfl | exact wkV_ow rfl rfl rfl | (refine wkV_ow rfl rfl ?_) | (refine wkV_sc (congrArg (Value.int .i64) ?_)) | (refine wkV_sc (congrArg Value.bool ?_)) | exact wkV_ls rfl | ((refine wkV_cl ?_); conv => whnf) | ((refine wkV_tu ?_); conv => whnf) | ((refine wkV_ag ?_); conv => whnf) | (conv => whnf))))))
                exact w1 (by omega)
          · rw [hlen2] at h
            have : k = y.inn.length := by omega
            subst this
            have hn := any_none (p := heavyF) fun j hj => hq j hj hj
            have hy1 : heavyM1 y = false := by simp [heavyM1, hn, *]
            refine ⟨i + 1, ⟨⟨by omega, ?_⟩, by omega⟩, ?_⟩
            · intro j hj hji
              by_cases e : j = i
              · subst e; rw [hy]; exact hy1
              · exact hp j hj (by omega)
            · conv => whnf
              (refine And.intro (And.intro (by with_unfolding_all rfl) (by intro q h; cases h)) ?_; refine And.intro ?_ (And.intro ?_ ?_) <;> (conv => whnf) <;> (repeat' (first | exact True.intro | (with_reducible exact rfl) | exact (rfl : List.replicate 0 PV.bad = []) | ((with_reducible refine And.intro ?_ ?_) <;> (first | (with_reducible exact wkV_same _ rfl) | exact wkV_pt rfl rfl | exact wkV_ow rfl rfl rfl | (refine wkV_ow rfl rfl ?_) | (refine wkV_sc (congrArg (Value.int .i64) ?_)) | (refine wkV_sc (congrArg Value.bool ?_)) | exact wkV_ls rfl | ((refine wkV_cl ?_); conv => whnf) | ((refine wkV_tu ?_); conv => whnf) | ((refine wkV_ag ?_); conv => whnf) | (conv => whnf))))))
              exact w1 (by omega)
      · rw [hlen] at h
        have : i = m.inn.length := by omega
        subst this
        refine exit_plain rfl ?_
        have := any_none (p := heavyM1) fun j hj => hp j hj hj
        simp only [heavyM, this, h0, Bool.or_false]
        rw [decide_eq_false (by omega)]; rfl
end Go.Proofs
