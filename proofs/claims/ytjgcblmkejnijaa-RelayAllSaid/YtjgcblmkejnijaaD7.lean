/- Plain law: the best place is the least one. -/
import Derived.Test.YtjgcblmkejnijaaD6
set_option linter.unusedSimpArgs false
set_option linter.unusedVariables false
namespace Go.Proofs
open Go.Pv
set_option maxRecDepth 100000

def keyLt (a b : Pl) : Prop := fv (scoreW a) < fv (scoreW b) ∨ (fv (scoreW a) = fv (scoreW b) ∧ a.node < b.node)
theorem cmpP_lt {a b : Pl} : cmpP a b < 0 ↔ keyLt a b := by
  unfold cmpP keyLt cmpZ
  repeat' split
  all_goals omega
theorem keyLt_asym {a b : Pl} (h : keyLt a b) : ¬ keyLt b a := by unfold keyLt at *; omega
theorem keyLt_le {a b c : Pl} (h1 : ¬ keyLt a b) (h2 : ¬ keyLt b c) : ¬ keyLt a c := by unfold keyLt at *; omega
abbrev Srt (s : List Pl) : Prop := s.Pairwise fun a b => ¬ keyLt b a
theorem srt_at {s : List Pl} (h : Srt s) {i j : Nat} (hij : i < j) (hj : j < s.length) : ¬ keyLt (s[j]'hj) (s[i]'(by omega)) := by
  exact List.pairwise_iff_getElem.1 h i j (by omega) hj hij
theorem insK_srt {s : List Pl} {x : Pl} (hs : Srt s) : ∀ j, j ≤ s.length → (∀ t (ht : t < s.length), j ≤ t → keyLt x (s[t]'ht)) → Srt (insK s x j)
  | 0, _, h => by
    show Srt (x :: s)
    rw [Srt, List.pairwise_cons]
    refine ⟨fun y hy => ?_, hs⟩
    obtain ⟨t, ht, rfl⟩ := List.getElem_of_mem hy
    exact keyLt_asym (h t ht (Nat.zero_le _))
  | j + 1, hj, h => by
    unfold insK
    have hjl : j < s.length := by omega
    have hg : s.getD j pz = s[j]'hjl := by rw [List.getD_eq_getElem?_getD, List.getElem?_eq_getElem hjl]; rfl
    rw [hg]
    split
    · rename_i hc
      refine insK_srt hs j (by omega) (fun t ht hjt => ?_)
      by_cases e : t = j
      · subst e; exact cmpP_lt.1 hc
      · exact h t ht (by omega)
    · rename_i hc
      have hc : ¬ keyLt x (s[j]'hjl) := fun hk => hc (cmpP_lt.2 hk)
      have hsp : Srt (s.take (j + 1) ++ s.drop (j + 1)) := by rw [List.take_append_drop]; exact hs
      rw [Srt, List.pairwise_append] at hsp
      rw [Srt, List.pairwise_append]
      refine ⟨hsp.1, ?_, ?_⟩
      · rw [List.pairwise_cons]
        refine ⟨fun y hy => ?_, hsp.2.1⟩
        obtain ⟨t, ht, rfl⟩ := List.getElem_of_mem hy
        rw [List.getElem_drop]
        exact keyLt_asym (h _ _ (by omega))
      · intro a ha b hb
        rcases List.mem_cons.1 hb with rfl | hb
        · obtain ⟨t, ht, rfl⟩ := List.getElem_of_mem ha
          rw [List.getElem_take]
          rw [List.length_take] at ht
          by_cases e : t = j
          · subst e; exact hc
          · exact keyLt_le hc (srt_at hs (by omega) hjl)
        · exact hsp.2.2 a ha b hb
theorem sortA_srt (l : List Pl) : Srt (sortA l) := by
  have key : ∀ (l s : List Pl), Srt s → Srt (l.foldl insA s) := by
    intro l
    induction l with
    | nil => intro s h; exact h
    | cons x l ih => intro s h; rw [List.foldl_cons]; exact ih _ (insK_srt h _ (Nat.le_refl _) (fun t ht hle => by omega))
  exact key l [] List.Pairwise.nil

structure IsBest (l : List Pl) (bits : Int) (q : Pl) : Prop where
  mem : q ∈ l
  bit : tb bits q.node.toNat = true
  least : ∀ y ∈ l, tb bits y.node.toNat = true → ¬ keyLt y q
theorem best_some {l : List Pl} {bits : Int} {y : Pl} (hy : y ∈ l) (hb : tb bits y.node.toNat = true) : ∃ q, IsBest l bits q ∧ bestP l bits = q.node := by
  cases hf : (sortA l).find? (fun p => tb bits p.node.toNat) with
  | none =>
    rw [List.find?_eq_none] at hf
    exact absurd hb (by simpa using hf y (sortA_mem.2 hy))
  | some q =>
    have h0 := hf
    rw [List.find?_eq_some_iff_getElem] at hf
    obtain ⟨h1, i, hi, rfl, h2⟩ := hf
    refine ⟨_, ⟨sortA_mem.1 (List.getElem_mem hi), h1, fun z hz hzb => ?_⟩, by unfold bestP; rw [h0]⟩
    obtain ⟨j, hj, rfl⟩ := List.getElem_of_mem (sortA_mem.2 hz)
    by_cases hji : j < i
    · have := h2 j hji
      rw [hzb] at this; simp at this
    · by_cases e : j = i
      · subst e; intro hk; exact keyLt_asym hk hk
      · exact srt_at (sortA_srt l) (by omega) hj
theorem best_none {l : List Pl} {bits : Int} (h : ∀ y ∈ l, tb bits y.node.toNat = false) : bestP l bits = -1 := by
  unfold bestP
  rw [show (sortA l).find? (fun p => tb bits p.node.toNat) = none from by
    rw [List.find?_eq_none]
    intro y hy
    rw [h y (sortA_mem.1 hy)]; simp]
theorem best_is {l : List Pl} {bits : Int} {q : Pl} (h : IsBest l bits q) (hu : ∀ a ∈ l, ∀ b ∈ l, a.node = b.node → a = b) : bestP l bits = q.node := by
  obtain ⟨r, hr, e⟩ := best_some h.mem h.bit
  rw [e]
  have h1 := h.least r hr.mem hr.bit
  have h2 := hr.least q h.mem h.bit
  unfold keyLt at h1 h2
  omega
theorem chkP_app : ∀ (l m : List Pl) (s : Int), chkP s (l ++ m) = true → chkP s l = true
  | [], _, _, _ => by simp [chkP]
  | q :: l, m, s, h => by
    rw [List.cons_append, chkP] at h
    rw [chkP]
    by_cases hq : PlIn q
    · rw [if_pos hq] at h ⊢
      by_cases ht : tb s q.node.toNat = true
      · rw [if_pos ht] at h; cases h
      · rw [if_neg ht] at h ⊢; exact chkP_app l m _ h
    · rw [if_neg hq] at h; cases h
theorem chkP_seen : ∀ (l : List Pl) (s : Int), chkP s l = true → ∀ p ∈ l, tb s p.node.toNat = false
  | [], _, _, p, hp => by cases hp
  | q :: l, s, h, p, hp => by
    rw [chkP] at h
    by_cases hq : PlIn q
    · rw [if_pos hq] at h
      by_cases ht : tb s q.node.toNat = true
      · rw [if_pos ht] at h; cases h
      · rw [if_neg ht] at h
        rcases List.mem_cons.1 hp with rfl | hp
        · simpa using ht
        · have := chkP_seen l _ h p hp
          rw [tb_or] at this
          simp only [Bool.or_eq_false_iff] at this
          exact this.1
    · rw [if_neg hq] at h; cases h
theorem chkP_uniq : ∀ (l : List Pl) (s : Int), chkP s l = true → ∀ a ∈ l, ∀ b ∈ l, a.node = b.node → a = b
  | [], _, _, a, ha => by cases ha
  | q :: l, s, h, a, ha => by
    intro b hb e
    have hh := h
    rw [chkP] at h
    by_cases hq : PlIn q
    · rw [if_pos hq] at h
      by_cases ht : tb s q.node.toNat = true
      · rw [if_pos ht] at h; cases h
      · rw [if_neg ht] at h
        have hs := chkP_seen l _ h
        obtain ⟨n, hn⟩ : ∃ n : Nat, q.node = n := ⟨q.node.toNat, by unfold PlIn at hq; omega⟩
        have hn7 : n < 7 := by unfold PlIn at hq; omega
        have no : ∀ y ∈ l, y.node = q.node → False := fun y hy hy2 => by
          have := hs y hy
          rw [hy2, show q.node.toNat = n by omega, hn, tb_or, tb_shl n n (by omega)] at this
          simp at this
        rcases List.mem_cons.1 ha with ea | ha2
        · rcases List.mem_cons.1 hb with eb | hb2
          · rw [ea, eb]
          · exact (no b hb2 (by rw [← e, ea])).elim
        · rcases List.mem_cons.1 hb with eb | hb2
          · exact (no a ha2 (by rw [e, eb])).elim
          · exact chkP_uniq l _ h a ha2 b hb2 e
    · rw [if_neg hq] at h; cases h
end Go.Proofs
