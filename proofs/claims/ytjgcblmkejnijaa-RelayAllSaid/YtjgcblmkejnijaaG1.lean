/- Messages compared: what is the same of them. -/
import Derived.Test.YtjgcblmkejnijaaE6
import Derived.Test.YtjgcblmkejnijaaC22
set_option linter.unusedSimpArgs false
set_option linter.unusedVariables false
namespace Go.Proofs
open Go.Pv
set_option maxRecDepth 100000

set_option maxHeartbeats 1000000 in
theorem c_kEntries (l m : List Ent) (hm : l.length ≤ maxLen) : Ctr Try.prog 108 [.sl 16 (l.map Ent.enc), .sl 16 (m.map Ent.enc)] (bv (decide (l.map Ent.nrm = m.map Ent.nrm))) [] := by
  have hm' : l.length ≤ 9223372036854775807 := Nat.le_trans hm (by decide)
  refine spec_of_body mixed Try.func108 rfl (by kernel_rfl) (by kernel_rfl) ?_; conv => whnf
  ((first | (with_reducible refine split_dec (fun h => ?_) (fun h => ?_)) | (with_reducible refine split_beq (fun h => ?_) (fun h => ?_)) | (with_reducible refine split_bne (fun h => ?_) (fun h => ?_)) | (with_reducible refine split_not (fun h => ?_) (fun h => ?_)) | (with_reducible refine split_beqS (fun h => ?_) (fun h => ?_)) | (with_reducible refine split_intro (fun h => ?_) (fun h => ?_))) <;> conv => whnf)
  · refine exit_plain rfl (congrArg (fun b : Bool => bv b) ?_)
    symm
    apply decide_eq_false
    intro e
    have := congrArg List.length e
    simp at this h
    omega
  simp only [List.length_map] at h
  have hlm : l.length = m.length := by first | omega | (simp at h; omega)
  clear h
  refine tri_for0 mixed (by kernel_rfl) (fun i : Nat => i ≤ l.length ∧ ∀ j (hj : j < l.length), j < i → Ent.nrm (l[j]'hj) = Ent.nrm (m[j]'(hlm ▸ hj))) (fun i => [(5, iv i)]) [] (fun i => l.length - i) 0 ⟨Nat.zero_le _, fun j _ h => absurd h (Nat.not_lt_zero _)⟩ ?_ ?_
  · conv => whnf
    (refine And.intro (And.intro (by with_unfolding_all rfl) (by intro q h; cases h)) ?_; refine And.intro ?_ (And.intro ?_ ?_) <;> (conv => whnf) <;> (repeat' (first | exact True.intro | (with_reducible exact rfl) | exact (rfl : List.replicate 0 PV.bad = []) | ((with_reducible refine And.intro ?_ ?_) <;> (first | (with_reducible exact wkV_same _ rfl) | exact wkV_pt rfl rfl | exact wkV_ow rfl rfl rfl | (refine wkV_ow rfl rfl ?_) | (refine wkV_sc (congrArg (Value.int .i64) ?_)) | (refine wkV_sc (congrArg Value.bool ?_)) | exact wkV_ls rfl | ((refine wkV_cl ?_); conv => whnf) | ((refine wkV_tu ?_); conv => whnf) | ((refine wkV_ag ?_); conv => whnf) | (conv => whnf))))))
    all_goals rfl
  rintro i ⟨hi, hp⟩
  conv => whnf
  ((first | (with_reducible refine split_dec (fun h => ?_) (fun h => ?_)) | (with_reducible refine split_beq (fun h => ?_) (fun h => ?_)) | (with_reducible refine split_bne (fun h => ?_) (fun h => ?_)) | (with_reducible refine split_not (fun h => ?_) (fun h => ?_)) | (with_reducible refine split_beqS (fun h => ?_) (fun h => ?_)) | (with_reducible refine split_intro (fun h => ?_) (fun h => ?_))) <;> conv => whnf)
  · simp only [List.length_map] at h
    have hlt : i < l.length := by omega
    have hlt2 : i < m.length := by omega
    clear h
    have no : ¬ Ent.nrm (l[i]'hlt) = Ent.nrm (m[i]'hlt2) → decide (l.map Ent.nrm = m.map Ent.nrm) = false := by
      intro hn
      apply decide_eq_false
      intro e
      have : (l.map Ent.nrm)[i]? = (m.map Ent.nrm)[i]? := by rw [e]
      rw [List.getElem?_map, List.getElem?_map, List.getElem?_eq_getElem hlt, List.getElem?_eq_getElem hlt2] at this
      exact hn (Option.some.inj this)
    have step : Ent.nrm (l[i]'hlt) = Ent.nrm (m[i]'hlt2) → ∀ j (hj : j < l.length), j < i + 1 → Ent.nrm (l[j]'hj) = Ent.nrm (m[j]'(hlm ▸ hj)) := by
      intro hn j hj hji
      by_cases e : j = i
      · subst e; exact hn
      · exact hp j hj (by omega)
    (first | ((with_reducible refine And.intro (by omega) (Exists.intro _ (And.intro (row_at hlt) ?_))); conv => whnf))
    (first | ((with_reducible refine And.intro (by omega) (Exists.intro _ (And.intro (row_at hlt2) ?_))); conv => whnf))
    have kc := c_kEntry (l[i]'hlt) (m[i]'hlt2)
    by_cases hn : Ent.nrm (l[i]'hlt) = Ent.nrm (m[i]'hlt2)
    · rw [decide_eq_true hn] at kc
      ((try ((refine Exists.intro none ?_); (conv => whnf))); first | ((with_reducible refine call_by (kc) ?_); conv => whnf))
      refine ⟨i + 1, ⟨⟨by omega, step hn⟩, by omega⟩, ?_⟩
      conv => whnf
      (refine And.intro (And.intro (by with_unfolding_all rfl) (by intro q h; cases h)) ?_; refine And.intro ?_ (And.intro ?_ ?_) <;> (conv => whnf) <;> (repeat' (first | exact True.intro | (with_reducible exact rfl) | exact (rfl : List.replicate 0 PV.bad = []) | ((with_reducible refine And.intro ?_ ?_) <;> (first | (with_reducible exact wkV_same _ rfl) | exact wkV_pt rfl rfl | exact wkV_ow rfl rfl rfl | (refine wkV_ow rfl rfl ?_) | (refine wkV_sc (congrArg (Value.int .i64) ?_)) | (refine wkV_sc (congrArg Value.bool ?_)) | exact wkV_ls rfl | ((refine wkV_cl ?_); conv => whnf) | ((refine wkV_tu ?_); conv => whnf) | ((refine wkV_ag ?_); conv => whnf) | (conv => whnf))))))
      all_goals first | exact w1 (by omega) | rfl | trace_state
    · rw [decide_eq_false hn] at kc
      ((try ((refine Exists.intro none ?_); (conv => whnf))); first | ((with_reducible refine call_by (kc) ?_); conv => whnf))
      exact exit_plain rfl (by rw [no hn])
  · simp only [List.length_map] at h
    have hi' : i = l.length := by omega
    subst hi'
    refine exit_plain rfl (congrArg (fun b : Bool => bv b) ?_)
    symm
    apply decide_eq_true
    apply List.ext_getElem
    · simp [hlm]
    · intro j h1 h2
      rw [List.getElem_map, List.getElem_map]
      exact hp j (by simpa using h1) (by simpa using h1)
set_option maxHeartbeats 1000000 in
theorem c_kBytesI (l m : List Int) (hm : l.length ≤ maxLen) : Ctr Try.prog 109 [.sl 1 (l.map encB), .sl 1 (m.map encB)] (bv (decide (l.map id = m.map id))) [] := by
  have hm' : l.length ≤ 9223372036854775807 := Nat.le_trans hm (by decide)
  refine spec_of_body mixed Try.func109 rfl (by kernel_rfl) (by kernel_rfl) ?_; conv => whnf
  ((first | (with_reducible refine split_dec (fun h => ?_) (fun h => ?_)) | (with_reducible refine split_beq (fun h => ?_) (fun h => ?_)) | (with_reducible refine split_bne (fun h => ?_) (fun h => ?_)) | (with_reducible refine split_not (fun h => ?_) (fun h => ?_)) | (with_reducible refine split_beqS (fun h => ?_) (fun h => ?_)) | (with_reducible refine split_intro (fun h => ?_) (fun h => ?_))) <;> conv => whnf)
  · refine exit_plain rfl (congrArg (fun b : Bool => bv b) ?_)
    symm
    apply decide_eq_false
    intro e
    have := congrArg List.length e
    simp at this h
    omega
  simp only [List.length_map] at h
  have hlm : l.length = m.length := by first | omega | (simp at h; omega)
  clear h
  refine tri_for0 mixed (by kernel_rfl) (fun i : Nat => i ≤ l.length ∧ ∀ j (hj : j < l.length), j < i → id (l[j]'hj) = id (m[j]'(hlm ▸ hj))) (fun i => [(5, iv i)]) [] (fun i => l.length - i) 0 ⟨Nat.zero_le _, fun j _ h => absurd h (Nat.not_lt_zero _)⟩ ?_ ?_
  · conv => whnf
    (refine And.intro (And.intro (by with_unfolding_all rfl) (by intro q h; cases h)) ?_; refine And.intro ?_ (And.intro ?_ ?_) <;> (conv => whnf) <;> (repeat' (first | exact True.intro | (with_reducible exact rfl) | exact (rfl : List.replicate 0 PV.bad = []) | ((with_reducible refine And.intro ?_ ?_) <;> (first | (with_reducible exact wkV_same _ rfl) | exact wkV_pt rfl rfl | exact wkV_ow rfl rfl rfl | (refine wkV_ow rfl rfl ?_) | (refine wkV_sc (congrArg (Value.int .i64) ?_)) | (refine wkV_sc (congrArg Value.bool ?_)) | exact wkV_ls rfl | ((refine wkV_cl ?_); conv => whnf) | ((refine wkV_tu ?_); conv => whnf) | ((refine wkV_ag ?_); conv => whnf) | (conv => whnf))))))
    all_goals rfl
  rintro i ⟨hi, hp⟩
  conv => whnf
  ((first | (with_reducible refine split_dec (fun h => ?_) (fun h => ?_)) | (with_reducible refine split_beq (fun h => ?_) (fun h => ?_)) | (with_reducible refine split_bne (fun h => ?_) (fun h => ?_)) | (with_reducible refine split_not (fun h => ?_) (fun h => ?_)) | (with_reducible refine split_beqS (fun h => ?_) (fun h => ?_)) | (with_reducible refine split_intro (fun h => ?_) (fun h => ?_))) <;> conv => whnf)
  · simp only [List.length_map] at h
    have hlt : i < l.length := by omega
    have hlt2 : i < m.length := by omega
    clear h
    have no : ¬ id (l[i]'hlt) = id (m[i]'hlt2) → decide (l.map id = m.map id) = false := by
      intro hn
      apply decide_eq_false
      intro e
      have : (l.map id)[i]? = (m.map id)[i]? := by rw [e]
      rw [List.getElem?_map, List.getElem?_map, List.getElem?_eq_getElem hlt, List.getElem?_eq_getElem hlt2] at this
      exact hn (Option.some.inj this)
    have step : id (l[i]'hlt) = id (m[i]'hlt2) → ∀ j (hj : j < l.length), j < i + 1 → id (l[j]'hj) = id (m[j]'(hlm ▸ hj)) := by
      intro hn j hj hji
      by_cases e : j = i
      · subst e; exact hn
      · exact hp j hj (by omega)
    (first | ((with_reducible refine And.intro (by omega) (Exists.intro _ (And.intro (row_at hlt) ?_))); conv => whnf))
    (first | ((with_reducible refine And.intro (by omega) (Exists.intro _ (And.intro (row_at hlt2) ?_))); conv => whnf))
    ((first | (with_reducible refine split_dec (fun h => ?_) (fun h => ?_)) | (with_reducible refine split_beq (fun h => ?_) (fun h => ?_)) | (with_reducible refine split_bne (fun h => ?_) (fun h => ?_)) | (with_reducible refine split_not (fun h => ?_) (fun h => ?_)) | (with_reducible refine split_beqS (fun h => ?_) (fun h => ?_)) | (with_reducible refine split_intro (fun h => ?_) (fun h => ?_))) <;> conv => whnf)
    · exact exit_plain rfl (by rw [no h])
    · have hn : id (l[i]'hlt) = id (m[i]'hlt2) := by first | exact h | exact Classical.byContradiction h
      refine ⟨i + 1, ⟨⟨by omega, step hn⟩, by omega⟩, ?_⟩
      conv => whnf
      (refine And.intro (And.intro (by with_unfolding_all rfl) (by intro q h; cases h)) ?_; refine And.intro ?_ (And.intro ?_ ?_) <;> (conv => whnf) <;> (repeat' (first | exact True.intro | (with_reducible exact rfl) | exact (rfl : List.replicate 0 PV.bad = []) | ((with_reducible refine And.intro ?_ ?_) <;> (first | (with_reducible exact wkV_same _ rfl) | exact wkV_pt rfl rfl | exact wkV_ow rfl rfl rfl | (refine wkV_ow rfl rfl ?_) | (refine wkV_sc (congrArg (Value.int .i64) ?_)) | (refine wkV_sc (congrArg Value.bool ?_)) | exact wkV_ls rfl | ((refine wkV_cl ?_); conv => whnf) | ((refine wkV_tu ?_); conv => whnf) | ((refine wkV_ag ?_); conv => whnf) | (conv => whnf))))))
      all_goals first | exact w1 (by omega) | rfl | trace_state
  · simp only [List.length_map] at h
    have hi' : i = l.length := by omega
    subst hi'
    refine exit_plain rfl (congrArg (fun b : Bool => bv b) ?_)
    symm
    apply decide_eq_true
    apply List.ext_getElem
    · simp [hlm]
    · intro j h1 h2
      rw [List.getElem_map, List.getElem_map]
      exact hp j (by simpa using h1) (by simpa using h1)
theorem c_kBytes (l m : List Int) (hm : l.length ≤ maxLen) : Ctr Try.prog 109 [.sl 1 (l.map encB), .sl 1 (m.map encB)] (bv (decide (l = m))) [] := by
  have k := c_kBytesI l m hm
  rw [List.map_id, List.map_id] at k
  exact k
/-- What is compared of a message itself. -/
structure FlatK where
  kind : Int
  frm : Int
  to : Int
  term : Int
  index : Int
  logTerm : Int
  commit : Int
  round : Int
  yes : Bool
  entries : List Ent
  conf : Conf
  snap : List Int
  inner : Nat
deriving DecidableEq
def flatK (m : Mg) : FlatK := ⟨m.kind, m.frm, m.to, m.term, m.index, m.logTerm, m.commit, m.round, m.yes, m.entries.map Ent.nrm, m.conf, m.snap, m.inner.length⟩
set_option maxHeartbeats 4000000 in
theorem c_kFlat (a b : Mg) (h1 : a.snap.length ≤ maxLen) (h2 : a.entries.length ≤ maxLen) : Ctr Try.prog 77 [.ag a.enc, .ag b.enc] (bv (decide (flatK a = flatK b))) [] := by
  have no : ∀ {β : Type} (f : FlatK → β), ¬ f (flatK a) = f (flatK b) → decide (flatK a = flatK b) = false := fun f hn => decide_eq_false fun e => hn (by rw [e])
  have yes : a.kind = b.kind → a.frm = b.frm → a.to = b.to → a.term = b.term → a.index = b.index → a.logTerm = b.logTerm → a.commit = b.commit → a.round = b.round → a.yes = b.yes → a.entries.map Ent.nrm = b.entries.map Ent.nrm → a.conf = b.conf → a.snap = b.snap → a.inner.length = b.inner.length → decide (flatK a = flatK b) = true := by
    intro e1 e2 e3 e4 e5 e6 e7 e8 e9 e10 e11 e12 e13
    apply decide_eq_true
    unfold flatK
    rw [e1, e2, e3, e4, e5, e6, e7, e8, e9, e10, e11, e12, e13]
  have ke := c_kEntries a.entries b.entries h2
  have kc := c_kConf a.conf b.conf
  have kb := c_kBytes a.snap b.snap h1
  generalize decide (flatK a = flatK b) = r at *
  have hy : a.yes = b.yes ∨ (a.yes == b.yes) = false := by cases a.yes <;> cases b.yes <;> simp
  refine spec_of_body mixed Try.func77 rfl (by kernel_rfl) (by kernel_rfl) ?_; conv => whnf
  ((first | (with_reducible refine split_dec (fun h => ?_) (fun h => ?_)) | (with_reducible refine split_beq (fun h => ?_) (fun h => ?_)) | (with_reducible refine split_bne (fun h => ?_) (fun h => ?_)) | (with_reducible refine split_not (fun h => ?_) (fun h => ?_)) | (with_reducible refine split_beqS (fun h => ?_) (fun h => ?_)) | (with_reducible refine split_intro (fun h => ?_) (fun h => ?_))) <;> conv => whnf)
  · have e1 := h
    clear h
    ((first | (with_reducible refine split_dec (fun h => ?_) (fun h => ?_)) | (with_reducible refine split_beq (fun h => ?_) (fun h => ?_)) | (with_reducible refine split_bne (fun h => ?_) (fun h => ?_)) | (with_reducible refine split_not (fun h => ?_) (fun h => ?_)) | (with_reducible refine split_beqS (fun h => ?_) (fun h => ?_)) | (with_reducible refine split_intro (fun h => ?_) (fun h => ?_))) <;> conv => whnf)
    · have e2 := h
      clear h
      ((first | (with_reducible refine split_dec (fun h => ?_) (fun h => ?_)) | (with_reducible refine split_beq (fun h => ?_) (fun h => ?_)) | (with_reducible refine split_bne (fun h => ?_) (fun h => ?_)) | (with_reducible refine split_not (fun h => ?_) (fun h => ?_)) | (with_reducible refine split_beqS (fun h => ?_) (fun h => ?_)) | (with_reducible refine split_intro (fun h => ?_) (fun h => ?_))) <;> conv => whnf)
      · have e3 := h
        clear h
        ((first | (with_reducible refine split_dec (fun h => ?_) (fun h => ?_)) | (with_reducible refine split_beq (fun h => ?_) (fun h => ?_)) | (with_reducible refine split_bne (fun h => ?_) (fun h => ?_)) | (with_reducible refine split_not (fun h => ?_) (fun h => ?_)) | (with_reducible refine split_beqS (fun h => ?_) (fun h => ?_)) | (with_reducible refine split_intro (fun h => ?_) (fun h => ?_))) <;> conv => whnf)
        · have e4 := h
          clear h
          ((first | (with_reducible refine split_dec (fun h => ?_) (fun h => ?_)) | (with_reducible refine split_beq (fun h => ?_) (fun h => ?_)) | (with_reducible refine split_bne (fun h => ?_) (fun h => ?_)) | (with_reducible refine split_not (fun h => ?_) (fun h => ?_)) | (with_reducible refine split_beqS (fun h => ?_) (fun h => ?_)) | (with_reducible refine split_intro (fun h => ?_) (fun h => ?_))) <;> conv => whnf)
          · have e5 := h
            clear h
            ((first | (with_reducible refine split_dec (fun h => ?_) (fun h => ?_)) | (with_reducible refine split_beq (fun h => ?_) (fun h => ?_)) | (with_reducible refine split_bne (fun h => ?_) (fun h => ?_)) | (with_reducible refine split_not (fun h => ?_) (fun h => ?_)) | (with_reducible refine split_beqS (fun h => ?_) (fun h => ?_)) | (with_reducible refine split_intro (fun h => ?_) (fun h => ?_))) <;> conv => whnf)
            · have e6 := h
              clear h
              ((first | (with_reducible refine split_dec (fun h => ?_) (fun h => ?_)) | (with_reducible refine split_beq (fun h => ?_) (fun h => ?_)) | (with_reducible refine split_bne (fun h => ?_) (fun h => ?_)) | (with_reducible refine split_not (fun h => ?_) (fun h => ?_)) | (with_reducible refine split_beqS (fun h => ?_) (fun h => ?_)) | (with_reducible refine split_intro (fun h => ?_) (fun h => ?_))) <;> conv => whnf)
              · have e7 := h
                clear h
                ((first | (with_reducible refine split_dec (fun h => ?_) (fun h => ?_)) | (with_reducible refine split_beq (fun h => ?_) (fun h => ?_)) | (with_reducible refine split_bne (fun h => ?_) (fun h => ?_)) | (with_reducible refine split_not (fun h => ?_) (fun h => ?_)) | (with_reducible refine split_beqS (fun h => ?_) (fun h => ?_)) | (with_reducible refine split_intro (fun h => ?_) (fun h => ?_))) <;> conv => whnf)
                · have e8 := h
                  clear h
                  ((with_reducible refine And.intro (show Try.prog.underlying _ = some .bool by kernel_rfl) ?_); conv => whnf)
                  by_cases e9 : a.yes = b.yes
                  · rw [show (a.yes == b.yes) = true by simpa using e9]
                    conv => whnf
                    by_cases e10 : a.entries.map Ent.nrm = b.entries.map Ent.nrm
                    · rw [decide_eq_true e10] at ke
                      ((try ((refine Exists.intro none ?_); (conv => whnf))); first | ((with_reducible refine call_by (ke) ?_); conv => whnf))
                      by_cases e11 : a.conf = b.conf
                      · rw [decide_eq_true e11] at kc
                        ((try ((refine Exists.intro none ?_); (conv => whnf))); first | ((with_reducible refine call_by (kc) ?_); conv => whnf))
                        by_cases e12 : a.snap = b.snap
                        · rw [decide_eq_true e12] at kb
                          ((try ((refine Exists.intro none ?_); (conv => whnf))); first | ((with_reducible refine call_by (kb) ?_); conv => whnf))
                          refine exit_plain rfl ?_
                          by_cases e13 : a.inner.length = b.inner.length
                          · rw [yes e1 e2 e3 e4 e5 e6 e7 e8 e9 e10 e11 e12 e13]; simp [e13]
                          · rw [no FlatK.inner e13]; simp [e13]; omega
                        · rw [decide_eq_false e12] at kb
                          ((try ((refine Exists.intro none ?_); (conv => whnf))); first | ((with_reducible refine call_by (kb) ?_); conv => whnf))
                          exact exit_plain rfl (by rw [no FlatK.snap e12])
                      · rw [decide_eq_false e11] at kc
                        ((try ((refine Exists.intro none ?_); (conv => whnf))); first | ((with_reducible refine call_by (kc) ?_); conv => whnf))
                        exact exit_plain rfl (by rw [no FlatK.conf e11])
                    · rw [decide_eq_false e10] at ke
                      ((try ((refine Exists.intro none ?_); (conv => whnf))); first | ((with_reducible refine call_by (ke) ?_); conv => whnf))
                      exact exit_plain rfl (by rw [no FlatK.entries e10])
                  · rw [show (a.yes == b.yes) = false by simpa using e9]
                    conv => whnf
                    exact exit_plain rfl (by rw [no FlatK.yes e9])
                · exact exit_plain rfl (by rw [no FlatK.round h])
              · exact exit_plain rfl (by rw [no FlatK.commit h])
            · exact exit_plain rfl (by rw [no FlatK.logTerm h])
          · exact exit_plain rfl (by rw [no FlatK.index h])
        · exact exit_plain rfl (by rw [no FlatK.term h])
      · exact exit_plain rfl (by rw [no FlatK.to h])
    · exact exit_plain rfl (by rw [no FlatK.frm h])
  · exact exit_plain rfl (by rw [no FlatK.kind h])
end Go.Proofs
