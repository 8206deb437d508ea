/- Places compared; copied; put in order they are the same ones. -/
import Derived.Test.YtjgcblmkejnijaaD9
import Derived.Test.YtjgcblmkejnijaaC22
set_option linter.unusedSimpArgs false
set_option linter.unusedVariables false
namespace Go.Proofs
open Go.Pv
set_option maxRecDepth 100000

abbrev Pl.nrm (x : Pl) : Pl := ⟨x.node, x.region, canonF x.cost, canonF x.delay⟩
theorem Pl.nrm_eq {a b : Pl} : a.nrm = b.nrm ↔ a.node = b.node ∧ a.region = b.region ∧ canonF a.cost = canonF b.cost ∧ canonF a.delay = canonF b.delay := by
  cases a; cases b; simp [Pl.nrm]
theorem c_kPlaces (l m : List Pl) (hm : l.length ≤ maxLen) : Ctr Try.prog 21 [.sl 4 (l.map Pl.enc), .sl 4 (m.map Pl.enc)] (bv (decide (l.map Pl.nrm = m.map Pl.nrm))) [] := by
  have hm' : l.length ≤ 9223372036854775807 := Nat.le_trans hm (by decide)
  refine spec_of_body mixed Try.func21 rfl (by kernel_rfl) (by kernel_rfl) ?_; conv => whnf
  ((first | (with_reducible refine split_dec (fun h => ?_) (fun h => ?_)) | (with_reducible refine split_beq (fun h => ?_) (fun h => ?_)) | (with_reducible refine split_bne (fun h => ?_) (fun h => ?_)) | (with_reducible refine split_not (fun h => ?_) (fun h => ?_)) | (with_reducible refine split_beqS (fun h => ?_) (fun h => ?_)) | (with_reducible refine split_intro (fun h => ?_) (fun h => ?_))) <;> conv => whnf)
  · refine exit_plain rfl (congrArg (fun b : Bool => bv b) ?_)
    symm
    apply decide_eq_false
    intro e
    have := congrArg List.length e
    simp at this h
    omega
  simp only [List.length_map] at h
  have hlm : l.length = m.length := by first | omega | (simp at h; omega)
  refine tri_for0 mixed (by kernel_rfl) (fun i : Nat => i ≤ l.length ∧ ∀ j (hj : j < l.length), j < i → (l[j]'hj).nrm = (m[j]'(hlm ▸ hj)).nrm) (fun i => [(5, iv i)]) [] (fun i => l.length - i) 0 ⟨Nat.zero_le _, fun j _ h => absurd h (Nat.not_lt_zero _)⟩ ?_ ?_
  · conv => whnf
    (refine And.intro (And.intro (by with_unfolding_all rfl) (by intro q h; cases h)) ?_; refine And.intro ?_ (And.intro ?_ ?_) <;> (conv => whnf) <;> (repeat' (first | exact True.intro | (with_reducible exact rfl) | exact (rfl : List.replicate 0 PV.bad = []) | ((with_reducible refine And.intro ?_ ?_) <;> (first | (with_reducible exact wkV_same _ rfl) | exact wkV_pt rfl rfl | exact wkV_ow rfl rfl rfl | (refine wkV_ow rfl rfl ?_) | (refine wkV_sc (congrArg (Value.int .i64) ?_)) | (refine wkV_sc (congrArg Value.bool ?_)) | exact wkV_ls rfl | ((refine wkV_cl ?_); conv => whnf) | ((refine wkV_tu ?_); conv => whnf) | ((refine wkV_ag ?_); conv => whnf) | (conv => whnf))))))
    all_goals rfl
  rintro i ⟨hi, hp⟩
  conv => whnf
  ((first | (with_reducible refine split_dec (fun h => ?_) (fun h => ?_)) | (with_reducible refine split_beq (fun h => ?_) (fun h => ?_)) | (with_reducible refine split_bne (fun h => ?_) (fun h => ?_)) | (with_reducible refine split_not (fun h => ?_) (fun h => ?_)) | (with_reducible refine split_beqS (fun h => ?_) (fun h => ?_)) | (with_reducible refine split_intro (fun h => ?_) (fun h => ?_))) <;> conv => whnf)
  · simp only [List.length_map] at h
    have hlt : i < l.length := by omega
    have hlt2 : i < m.length := by omega
    have no : ¬ (l[i]'hlt).nrm = (m[i]'hlt2).nrm → decide (l.map Pl.nrm = m.map Pl.nrm) = false := by
      intro hn
      apply decide_eq_false
      intro e
      have : (l.map Pl.nrm)[i]? = (m.map Pl.nrm)[i]? := by rw [e]
      rw [List.getElem?_map, List.getElem?_map, List.getElem?_eq_getElem hlt, List.getElem?_eq_getElem hlt2] at this
      exact hn (Option.some.inj this)
    have step : (l[i]'hlt).nrm = (m[i]'hlt2).nrm → ∀ j (hj : j < l.length), j < i + 1 → (l[j]'hj).nrm = (m[j]'(hlm ▸ hj)).nrm := by
      intro hn j hj hji
      by_cases e : j = i
      · subst e; exact hn
      · exact hp j hj (by omega)
    (first | ((with_reducible refine And.intro (by omega) (Exists.intro _ (And.intro (row_at hlt) ?_))); conv => whnf))
    (first | ((with_reducible refine And.intro (by omega) (Exists.intro _ (And.intro (row_at hlt2) ?_))); conv => whnf))
    ((first | (with_reducible refine split_dec (fun h => ?_) (fun h => ?_)) | (with_reducible refine split_beq (fun h => ?_) (fun h => ?_)) | (with_reducible refine split_bne (fun h => ?_) (fun h => ?_)) | (with_reducible refine split_not (fun h => ?_) (fun h => ?_)) | (with_reducible refine split_beqS (fun h => ?_) (fun h => ?_)) | (with_reducible refine split_intro (fun h => ?_) (fun h => ?_))) <;> conv => whnf)
    · exact exit_plain rfl (by rw [no (by rw [Pl.nrm_eq]; intro hh; exact h hh.1)])
    have e1 : (l[i]'hlt).node = (m[i]'hlt2).node := by first | exact h | exact Classical.byContradiction h
    clear h
    (first | ((with_reducible refine And.intro (by omega) (Exists.intro _ (And.intro (row_at hlt) ?_))); conv => whnf))
    (first | ((with_reducible refine And.intro (by omega) (Exists.intro _ (And.intro (row_at hlt2) ?_))); conv => whnf))
    ((first | (with_reducible refine split_dec (fun h => ?_) (fun h => ?_)) | (with_reducible refine split_beq (fun h => ?_) (fun h => ?_)) | (with_reducible refine split_bne (fun h => ?_) (fun h => ?_)) | (with_reducible refine split_not (fun h => ?_) (fun h => ?_)) | (with_reducible refine split_beqS (fun h => ?_) (fun h => ?_)) | (with_reducible refine split_intro (fun h => ?_) (fun h => ?_))) <;> conv => whnf)
    · exact exit_plain rfl (by rw [no (by rw [Pl.nrm_eq]; intro hh; exact h hh.2.1)])
    have e2 : (l[i]'hlt).region = (m[i]'hlt2).region := by first | exact h | exact Classical.byContradiction h
    clear h
    (first | ((with_reducible refine And.intro (by omega) (Exists.intro _ (And.intro (row_at hlt) ?_))); conv => whnf))
    (first | ((with_reducible refine And.intro (by omega) (Exists.intro _ (And.intro (row_at hlt2) ?_))); conv => whnf))
    ((try ((refine Exists.intro none ?_); (conv => whnf))); first | ((with_reducible refine call_by (c_Float (l[i]'hlt).cost (m[i]'hlt2).cost) ?_); conv => whnf))
    by_cases e3 : canonF (l[i]'hlt).cost = canonF (m[i]'hlt2).cost
    · rw [decide_eq_true e3]
      conv => whnf
      (first | ((with_reducible refine And.intro (by omega) (Exists.intro _ (And.intro (row_at hlt) ?_))); conv => whnf))
      (first | ((with_reducible refine And.intro (by omega) (Exists.intro _ (And.intro (row_at hlt2) ?_))); conv => whnf))
      ((try ((refine Exists.intro none ?_); (conv => whnf))); first | ((with_reducible refine call_by (c_Float (l[i]'hlt).delay (m[i]'hlt2).delay) ?_); conv => whnf))
      by_cases e4 : canonF (l[i]'hlt).delay = canonF (m[i]'hlt2).delay
      · rw [decide_eq_true e4]
        conv => whnf
        refine ⟨i + 1, ⟨⟨by omega, step (Pl.nrm_eq.2 ⟨e1, e2, e3, e4⟩)⟩, by omega⟩, ?_⟩
        conv => whnf
        (refine And.intro (And.intro (by with_unfolding_all rfl) (by intro q h; cases h)) ?_; refine And.intro ?_ (And.intro ?_ ?_) <;> (conv => whnf) <;> (repeat' (first | exact True.intro | (with_reducible exact rfl) | exact (rfl : List.replicate 0 PV.bad = []) | ((with_reducible refine And.intro ?_ ?_) <;> (first | (with_reducible exact wkV_same _ rfl) | exact wkV_pt rfl rfl | exact wkV_ow rfl rfl rfl | (refine wkV_ow rfl rfl ?_) | (refine wkV_sc (congrArg (Value.int .i64) ?_)) | (refine wkV_sc (congrArg Value.bool ?_)) | exact wkV_ls rfl | ((refine wkV_cl ?_); conv => whnf) | ((refine wkV_tu ?_); conv => whnf) | ((refine wkV_ag ?_); conv => whnf) | (conv => whnf))))))
        all_goals first | exact w1 (by omega) | rfl
      · rw [decide_eq_false e4]
        exact exit_plain rfl (by rw [no (by rw [Pl.nrm_eq]; intro hh; exact e4 hh.2.2.2)])
    · rw [decide_eq_false e3]
      exact exit_plain rfl (by rw [no (by rw [Pl.nrm_eq]; intro hh; exact e3 hh.2.2.1)])
  · simp only [List.length_map] at h
    have : i = l.length := by omega
    subst this
    refine exit_plain rfl (congrArg (fun b : Bool => bv b) ?_)
    symm
    apply decide_eq_true
    refine List.ext_getElem (by simpa using hlm) fun j h1 h2 => ?_
    simp only [List.length_map] at h1
    rw [List.getElem_map, List.getElem_map]
    exact hp j h1 h1
theorem c_TwinPls (l : List Pl) (h : l.length ≤ 4294967296) : Ctr Try.prog 22 [.sl 4 (l.map Pl.enc)] (.ow 0 0 (l.map Pl.enc).length) [(4, l.map Pl.enc)] := by
  have h' : (l.map Pl.enc).length ≤ 4294967296 := by simpa using h
  refine spec_of_body mixed Try.func22 rfl (by kernel_rfl) (by kernel_rfl) ?_; conv => whnf
  refine ⟨rfl, ?_⟩
  conv => whnf
  refine ⟨⟨⟨small h' (by kernel_rfl), smallM h'⟩, rfl⟩, ?_⟩
  conv => whnf
  exact exit_own [(0, 96)] rfl ⟨rfl, True.intro⟩ (wkV_ow rfl rfl rfl)
theorem insK_perm {s : List Pl} {x : Pl} : ∀ j, (insK s x j).Perm (x :: s)
  | 0 => List.Perm.refl _
  | j + 1 => by
    unfold insK
    split
    · exact insK_perm j
    · have h : (s.take (j + 1) ++ x :: s.drop (j + 1)).Perm (x :: (s.take (j + 1) ++ s.drop (j + 1))) := List.perm_middle
      rw [List.take_append_drop] at h
      exact h
theorem sortA_perm (l : List Pl) : (sortA l).Perm l := by
  have key : ∀ (l s : List Pl), (l.foldl insA s).Perm (s ++ l) := by
    intro l
    induction l with
    | nil => intro s; rw [List.append_nil]; exact List.Perm.refl _
    | cons x l ih =>
      intro s
      rw [List.foldl_cons]
      refine (ih _).trans ?_
      refine ((insK_perm s.length).append_right l).trans ?_
      exact List.perm_middle.symm
  exact key l []
theorem chkP_iff : ∀ (l : List Pl) (s : Int), chkP s l = true ↔ (∀ p ∈ l, PlIn p ∧ tb s p.node.toNat = false) ∧ (l.map Pl.node).Nodup
  | [], s => by simp [chkP]
  | q :: l, s => by
    rw [chkP]
    by_cases hq : PlIn q
    · rw [if_pos hq]
      by_cases ht : tb s q.node.toNat = true
      · rw [if_pos ht]
        constructor
        · intro h; cases h
        · rintro ⟨h, _⟩
          have := (h q (List.mem_cons_self ..)).2
          rw [ht] at this; cases this
      · rw [if_neg ht, chkP_iff l]
        obtain ⟨n, hn⟩ : ∃ n : Nat, q.node = n := ⟨q.node.toNat, by unfold PlIn at hq; omega⟩
        have hn7 : n < 7 := by unfold PlIn at hq; omega
        have hb : ∀ p : Pl, PlIn p → (tb (bor s (shl 1 q.node)) p.node.toNat = false ↔ tb s p.node.toNat = false ∧ p.node ≠ q.node) := fun p hp => by
          have hp7 : p.node.toNat < 64 := by unfold PlIn at hp; omega
          rw [hn, tb_or, tb_shl n _ (by omega)]
          simp only [Bool.or_eq_false_iff, decide_eq_false_iff_not]
          unfold PlIn at hp
          constructor
          · rintro ⟨h1, h2⟩; exact ⟨h1, by omega⟩
          · rintro ⟨h1, h2⟩; exact ⟨h1, by omega⟩
        rw [List.map_cons, List.nodup_cons]
        constructor
        · rintro ⟨h1, h2⟩
          refine ⟨fun p hp => ?_, fun hm => ?_, h2⟩
          · rcases List.mem_cons.1 hp with rfl | hp
            · exact ⟨hq, by simpa using ht⟩
            · exact ⟨(h1 p hp).1, ((hb p (h1 p hp).1).1 (h1 p hp).2).1⟩
          · obtain ⟨p, hp, e⟩ := List.mem_map.1 hm
            exact ((hb p (h1 p hp).1).1 (h1 p hp).2).2 e
        · rintro ⟨h1, h2, h3⟩
          refine ⟨fun p hp => ?_, h3⟩
          have := h1 p (List.mem_cons_of_mem _ hp)
          exact ⟨this.1, (hb p this.1).2 ⟨this.2, fun e => h2 (List.mem_map.2 ⟨p, hp, e⟩)⟩⟩
    · rw [if_neg hq]
      constructor
      · intro h; cases h
      · rintro ⟨h, _⟩; exact absurd (h q (List.mem_cons_self ..)).1 hq
theorem plsB_perm {l m : List Pl} (h : l.Perm m) (hl : plsB l = true) : plsB m = true := by
  rw [plsB, chkP_iff] at *
  exact ⟨fun p hp => hl.1 p (h.mem_iff.2 hp), (h.map Pl.node).nodup_iff.1 hl.2⟩
theorem sorted_uniq : ∀ (l m : List Pl), l.Pairwise keyLt → m.Pairwise keyLt → (∀ x, x ∈ l ↔ x ∈ m) → l = m
  | [], [], _, _, _ => rfl
  | [], y :: m, _, _, h => by have := (h y).2 (List.mem_cons_self ..); cases this
  | x :: l, [], _, _, h => by have := (h x).1 (List.mem_cons_self ..); cases this
  | x :: l, y :: m, h1, h2, h => by
    rw [List.pairwise_cons] at h1 h2
    have e : x = y := by
      rcases List.mem_cons.1 ((h x).1 (List.mem_cons_self ..)) with e | hx
      · exact e
      · rcases List.mem_cons.1 ((h y).2 (List.mem_cons_self ..)) with e | hy
        · exact e.symm
        · exact absurd (h1.1 y hy) (keyLt_asym (h2.1 x hx))
    subst e
    refine congrArg _ (sorted_uniq l m h1.2 h2.2 fun z => ?_)
    have hz := h z
    constructor
    · intro hl
      rcases List.mem_cons.1 (hz.1 (List.mem_cons_of_mem _ hl)) with e | h3
      · subst e; exact absurd (h1.1 z hl) (fun hk => keyLt_asym hk hk)
      · exact h3
    · intro hm
      rcases List.mem_cons.1 (hz.2 (List.mem_cons_of_mem _ hm)) with e | h3
      · subst e; exact absurd (h2.1 z hm) (fun hk => keyLt_asym hk hk)
      · exact h3
theorem sortA_strict {l : List Pl} (h : plsB l = true) : (sortA l).Pairwise keyLt := by
  rw [plsB, chkP_iff] at h
  have hn : ((sortA l).map Pl.node).Nodup := ((sortA_perm l).map Pl.node).nodup_iff.2 h.2
  have hs := sortA_srt l
  rw [List.Nodup, List.pairwise_map] at hn
  refine (hs.and hn).imp ?_
  rintro a b ⟨h1, h2⟩
  unfold keyLt at *
  omega
theorem sortA_eq {l m : List Pl} (h : l.Perm m) (hl : plsB l = true) : sortA l = sortA m :=
  sorted_uniq _ _ (sortA_strict hl) (sortA_strict (plsB_perm h hl)) fun x => by rw [sortA_mem, sortA_mem]; exact h.mem_iff
end Go.Proofs
