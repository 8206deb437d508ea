/- Plain law: who waits, and who is hit. -/
import Derived.Test.YtnphfgphajejaaaC32
import Derived.Test.YtnphfgphajejaaaC24
namespace Go.Proofs
open Go.Pv
set_option maxRecDepth 100000

theorem putE_inv {p : List Pd} {c : VCall} {index : Int} (h : putE p c index = 0) : PendsP p ∧ callR c = 0 ∧ (lastX p p.length < index ∧ index ≤ 1099511627776) ∧ (keptL p c).length < 4 := by
  by_cases h1 : PendsP p
  · by_cases h2 : callR c = 0
    · by_cases h3 : index ≤ lastX p p.length ∨ 1099511627776 < index
      · rw [putE_arg h1 h2 h3] at h; omega
      · by_cases h4 : 4 ≤ (keptL p c).length
        · rw [putE_full h1 h2 h3 h4] at h; omega
        · exact ⟨h1, h2, by omega, by omega⟩
    · rw [putE_call h1 h2] at h; exact absurd h h2
  · rw [putE_bad h1] at h; omega

theorem PendsP.pw {l : List Pd} (h : PendsP l) : l.Pairwise (fun a b => a.index < b.index) := List.pairwise_iff_getElem.2 fun i j hi hj hij => h.inc i j hi hj hij
theorem PendsP.pc {l : List Pd} (h : PendsP l) : l.Pairwise (fun a b => a.call.client ≠ b.call.client) := List.pairwise_iff_getElem.2 fun i j hi hj hij => h.one i j hi hj hij
theorem PendsP.of {l : List Pd} (h1 : l.length ≤ 4) (h2 : ∀ x ∈ l, 1 ≤ x.index ∧ x.index ≤ 1099511627776 ∧ callR x.call = 0) (h3 : l.Pairwise (fun a b => a.index < b.index)) (h4 : l.Pairwise (fun a b => a.call.client ≠ b.call.client)) : PendsP l :=
  ⟨h1, h2, fun i j hi hj hij => List.pairwise_iff_getElem.1 h3 i j hi hj hij, fun i j hi hj hij => List.pairwise_iff_getElem.1 h4 i j hi hj hij⟩

theorem PendsP.last {l : List Pd} (h : PendsP l) {x : Pd} (hx : x ∈ l) : x.index ≤ lastX l l.length := by
  obtain ⟨i, hi, rfl⟩ := List.getElem_of_mem hx
  rw [lastX_last (by omega)]
  by_cases e : i = l.length - 1
  · subst e; exact Int.le_refl _
  · exact Int.le_of_lt (h.inc i (l.length - 1) hi (by omega) (by omega))
theorem PendsP.last0 {l : List Pd} (h : PendsP l) : 0 ≤ lastX l l.length := by
  by_cases e : l.length = 0
  · rw [lastX_nil e]; exact Int.le_refl _
  · rw [lastX_last (by omega)]
    have := (h.each _ (List.getElem_mem (by omega : l.length - 1 < l.length))).1
    omega

theorem put_pends {p : List Pd} {c : VCall} {index : Int} (h : putE p c index = 0) : PendsP (putL p c index) := by
  obtain ⟨hp, hc, hi, hk⟩ := putE_inv h
  have h0 := hp.last0
  refine .of ?_ ?_ ?_ ?_
  · simp only [putL, List.length_append, List.length_cons, List.length_nil]; omega
  · intro x hx
    rcases List.mem_append.1 hx with hx | hx
    · exact hp.each x (List.mem_filter.1 hx).1
    · rw [List.mem_singleton.1 hx]; exact ⟨by show 1 ≤ index; omega, hi.2, hc⟩
  · refine List.pairwise_append.2 ⟨hp.pw.filter _, List.pairwise_singleton _ _, fun a ha b hb => ?_⟩
    rw [List.mem_singleton.1 hb]
    have := hp.last (List.mem_filter.1 ha).1
    show a.index < index
    omega
  · refine List.pairwise_append.2 ⟨hp.pc.filter _, List.pairwise_singleton _ _, fun a ha b hb => ?_⟩
    rw [List.mem_singleton.1 hb]
    have := (List.mem_filter.1 ha).2
    intro e
    have e : a.call.client = c.client := e
    simp [e] at this
theorem put_has (p : List Pd) (c : VCall) (index : Int) : hasP (putL p c index) c = true := by
  unfold hasP
  rw [List.any_append]
  simp [ownC]

/-! Whoever waits is hit once. -/
theorem take_left {x : Pd} {r : List Pd} (h : (x :: r).Pairwise (fun a b => a.index < b.index)) : ((x :: r).filter fun p => decide (x.index < p.index)) = r := by
  rw [List.filter_cons, if_neg (by simp), List.filter_eq_self]
  intro a ha
  have := (List.pairwise_cons.1 h).1 a ha
  simp [this]
theorem take_none {x : Pd} {r : List Pd} (h : (x :: r).Pairwise (fun a b => a.index < b.index)) {e : Ent} (he : e.kind = 1 → ownC e.call x.call = false) : (x :: r).find? (tkF x.index e) = none := by
  rw [List.find?_eq_none]
  intro a ha
  rcases List.mem_cons.1 ha with rfl | ha
  · by_cases hk : e.kind = 1
    · simp [tkF, he hk]
    · simp [tkF, hk]
  · have := (List.pairwise_cons.1 h).1 a ha
    have : ¬ a.index = x.index := by omega
    simp [tkF, this]
theorem take_hit (x : Pd) (r : List Pd) {e : Ent} (hk : e.kind = 1) (he : ownC e.call x.call = true) : (x :: r).find? (tkF x.index e) = some x := by
  rw [List.find?_cons_of_pos]
  simp [tkF, hk, he]
theorem has_not {x : Pd} {r : List Pd} (h : (x :: r).Pairwise (fun a b => a.call.client ≠ b.call.client)) : hasP r x.call = false := by
  unfold hasP
  rw [List.any_eq_false]
  intro a ha
  have := (List.pairwise_cons.1 h).1 a ha
  have t : ¬ a.call.client = x.call.client := fun e => this e.symm
  simp [ownC, t]
theorem callR_seq {c : VCall} (h : callR c = 0) : 1 ≤ c.seq ∧ c.seq ≤ 1099511627776 := by
  unfold callR at h
  split at h <;> omega

/-- One more call, as a value. -/
noncomputable def putW (l : List Pd) (c : VCall) (index : Int) : PV := if putE l c index = 0 then .tu [.sl 11 ((putL l c index).map Pd.enc), iv 0] else .tu [.nl, iv (putE l c index)]
theorem c_gPutV (l : List Pd) (hl : l.length ≤ 4294967) (c : VCall) (index : Int) : Ctr Try.prog 113 [.sl 11 (l.map Pd.enc), .ag c.enc, iv index] (putW l c index) [] := by
  have h := c_gPut l hl c index
  unfold putV putO at h
  unfold putW
  by_cases e : putE l c index = 0
  · rw [if_pos e, if_pos e] at h
    rw [if_pos e]
    refine h.frz (wkV_tu ?_)
    exact ⟨wkV_fz (.head _) rfl, wkV_same _ rfl, rfl⟩
  · rw [if_neg e, if_neg e] at h
    rw [if_neg e]
    exact h
theorem c_TakeV (l : List Pd) (hl : l.length ≤ 4294967) (index : Int) (x : Ent) : Ctr Try.prog 104 [.sl 11 (l.map Pd.enc), iv index, .ag x.enc] (.tu [.sl 11 ((l.filter fun p => decide (index < p.index)).map Pd.enc), .ag (callOf (l.find? (tkF index x))).enc, bv (l.find? (tkF index x)).isSome]) [] := by
  refine (c_Take l hl index x).frz (wkV_tu ?_)
  exact ⟨wkV_fz (.head _) rfl, wkV_same _ rfl, wkV_same _ rfl, rfl⟩
end Go.Proofs
