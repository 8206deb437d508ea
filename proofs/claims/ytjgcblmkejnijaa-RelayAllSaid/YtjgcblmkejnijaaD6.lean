/- Contracts of functions: place.Order, place.Best. -/
import Derived.Test.YtjgcblmkejnijaaD5
set_option linter.unusedSimpArgs false
set_option linter.unusedVariables false
namespace Go.Pv
/-- An answer whose own slices are shown as values. -/
theorem exit_fz2 {c : CSt} {p r : PV} (fz : List (Nat × Bool × Nat × List (List PV))) (h : ∀ q ∈ fz, lkA c.ob q.1 = some (some q.2)) (h3 : WkV [] [] fz p r) : ExitOk c p r [] := by
  refine ⟨.inl ⟨fz, [], ⟨h, ?_, ?_, ?_⟩, h3⟩⟩
  · intro k o e; cases e
  · intro k k0 e; cases e
  · intro k k' k0 e; cases e
theorem wkV_fz2 {kb : List Nat} {rn : List (Nat × Nat)} {fz : List (Nat × Bool × Nat × List (List PV))} {k n : Nat} {b : Bool} {sz : Nat} {rows : List (List PV)} (h : (k, b, sz, rows) ∈ fz) (hn : n = rows.length) : WkV kb rn fz (.ow k 0 n) (.sl sz rows) := by
  subst hn
  simp only [WkV]
  exact .inr (.inr ⟨k, 0, _, b, rows, rfl, h, by omega, by simp⟩)
end Go.Pv
namespace Go.Proofs
open Go.Pv
set_option maxRecDepth 100000

theorem insK_mem {s : List Pl} {x y : Pl} : ∀ j, y ∈ insK s x j ↔ (y = x ∨ y ∈ s)
  | 0 => by simp [insK]
  | j + 1 => by
    unfold insK
    split
    · exact insK_mem j
    · rw [List.mem_append, List.mem_cons]
      have : y ∈ s ↔ y ∈ s.take (j + 1) ∨ y ∈ s.drop (j + 1) := by
        conv => lhs; rw [← List.take_append_drop (j + 1) s]
        rw [List.mem_append]
      rw [this]
      constructor
      · rintro (h | h | h) <;> simp [h]
      · rintro (h | h | h) <;> simp [h]
theorem sortA_mem {l : List Pl} {y : Pl} : y ∈ sortA l ↔ y ∈ l := by
  have key : ∀ (l s : List Pl), y ∈ l.foldl insA s ↔ (y ∈ s ∨ y ∈ l) := by
    intro l
    induction l with
    | nil => intro s; simp
    | cons x l ih =>
      intro s
      rw [List.foldl_cons, ih, List.mem_cons]
      unfold insA
      rw [insK_mem]
      constructor
      · rintro ((h | h) | h) <;> simp [h]
      · rintro (h | h | h) <;> simp [h]
  have := key l []
  simpa [sortA] using this
theorem chkP_in : ∀ (l : List Pl) (s : Int), chkP s l = true → ∀ p ∈ l, PlIn p
  | [], _, _, p, hp => by cases hp
  | q :: l, s, h, p, hp => by
    rw [chkP] at h
    by_cases hq : PlIn q
    · rw [if_pos hq] at h
      rcases List.mem_cons.1 hp with rfl | hp
      · exact hq
      · by_cases ht : tb s q.node.toNat = true
        · rw [if_pos ht] at h; cases h
        · rw [if_neg ht] at h; exact chkP_in l _ h p hp
    · rw [if_neg hq] at h; cases h
def frN (s : Int) (i : Nat) : Nat := if tb s i = true then 0 else 1
def freeN (s : Int) : Nat := frN s 0 + frN s 1 + frN s 2 + frN s 3 + frN s 4 + frN s 5 + frN s 6
theorem frN_set {s : Int} {n i : Nat} (hn : n < 7) : frN (bor s (shl 1 (n : Int))) i = if n = i then 0 else frN s i := by
  unfold frN
  rw [tb_or, tb_shl n i (by omega)]
  by_cases e : n = i
  · rw [if_pos e, decide_eq_true e]; simp
  · rw [if_neg e, decide_eq_false e]; simp
theorem chkP_len : ∀ (l : List Pl) (s : Int), chkP s l = true → l.length ≤ freeN s
  | [], _, _ => Nat.zero_le _
  | q :: l, s, h => by
    rw [chkP] at h
    by_cases hq : PlIn q
    · rw [if_pos hq] at h
      by_cases ht : tb s q.node.toNat = true
      · rw [if_pos ht] at h; cases h
      · rw [if_neg ht] at h
        have ih := chkP_len l _ h
        obtain ⟨n, hn⟩ : ∃ n : Nat, q.node = n := ⟨q.node.toNat, by unfold PlIn at hq; omega⟩
        have hn7 : n < 7 := by unfold PlIn at hq; omega
        have hfn : frN s n = 1 := by
          rw [show q.node.toNat = n by omega] at ht
          unfold frN; rw [if_neg ht]
        rw [hn] at ih
        have hs : freeN (bor s (shl 1 (n : Int))) + 1 ≤ freeN s := by
          unfold freeN
          simp only [frN_set hn7]
          have : n = 0 ∨ n = 1 ∨ n = 2 ∨ n = 3 ∨ n = 4 ∨ n = 5 ∨ n = 6 := by omega
          rcases this with rfl | rfl | rfl | rfl | rfl | rfl | rfl <;> simp <;> omega
        rw [List.length_cons]
        omega
    · rw [if_neg hq] at h; cases h
theorem plsB_len {l : List Pl} (h : plsB l = true) : l.length ≤ 7 := by
  have h1 := chkP_len l 0 h
  have h2 : freeN 0 = 7 := by unfold freeN frN; simp [tb_zero]
  omega

set_option maxHeartbeats 1000000 in
theorem c_Order (l : List Pl) (hl : l.length ≤ 4294967) (h : plsB l = true) : Ctr Try.prog 19 [.sl 4 (l.map Pl.enc)] (.tu [.sl 4 ((sortA l).map Pl.enc), iv 0]) [] := by
  have k := c_PCheck l hl
  rw [if_pos h] at k
  have h7 := plsB_len h
  refine spec_of_body mixed Try.func19 rfl (by kernel_rfl) (by kernel_rfl) ?_; conv => whnf
  ((try ((refine Exists.intro none ?_); (conv => whnf))); first | ((with_reducible refine call_by (k) ?_); conv => whnf))
  ((try ((refine Exists.intro none ?_); (conv => whnf))); first | ((with_reducible refine call_by (c_ClonePls l (by omega)) ?_); conv => whnf))
  (refine Exists.intro _ (And.intro rfl (And.intro (by intro q hq; first | (cases hq; done) | (simp only [List.mem_cons, List.not_mem_nil, or_false] at hq; rcases hq with rfl | rfl <;> (simp only [List.length_cons, List.length_nil]; omega)) | (simp only [List.mem_cons, List.not_mem_nil, or_false] at hq; subst hq; simp only [List.length_cons, List.length_nil]; omega)) (And.intro (by intro i hi; simp only [List.length_cons, List.length_nil, Nat.lt_one_iff, Nat.zero_add] at hi; subst hi; rfl) ?_))); conv => whnf)
  ((refine Exists.intro (some ([], [(1000000, 192)], [])) ?_); (conv => whnf); first | ((with_reducible refine callE_by (c_SortFunc l (by omega)) ?_); conv => whnf))
  refine exit_fz2 [(192, false, 4, (sortA l).map Pl.enc)] (fun q hq => by rw [List.mem_singleton.1 hq]; rfl) (wkV_tu ⟨wkV_fz2 (b := false) (List.Mem.head _) (by rw [List.length_map, List.length_map, sortA_len]), wkV_same _ rfl, rfl⟩)
theorem c_OrderN (l : List Pl) (hl : l.length ≤ 4294967) (h : plsB l = false) : Ctr Try.prog 19 [.sl 4 (l.map Pl.enc)] (.tu [.nl, iv 1]) [] := by
  have k := c_PCheck l hl
  rw [h, if_neg (by decide)] at k
  refine spec_of_body mixed Try.func19 rfl (by kernel_rfl) (by kernel_rfl) ?_; conv => whnf
  ((try ((refine Exists.intro none ?_); (conv => whnf))); first | ((with_reducible refine call_by (k) ?_); conv => whnf))
  exact exit_plain rfl rfl

def bestP (l : List Pl) (bits : Int) : Int := match (sortA l).find? (fun p => tb bits p.node.toNat) with
  | some p => p.node
  | none => -1
set_option maxHeartbeats 1000000 in
theorem c_Best (l : List Pl) (hl : l.length ≤ 4294967) (h : plsB l = true) (bits : Int) : Ctr Try.prog 24 [.sl 4 (l.map Pl.enc), iv bits] (.tu [iv (bestP l bits), iv 0]) [] := by
  have k := c_Order l hl h
  have hin : ∀ p ∈ sortA l, PlIn p := fun p hp => chkP_in l 0 h p (sortA_mem.1 hp)
  have hlen : (sortA l).length ≤ 7 := by rw [sortA_len]; exact plsB_len h
  unfold bestP
  generalize sortA l = o at *
  refine spec_of_body mixed Try.func24 rfl (by kernel_rfl) (by kernel_rfl) ?_; conv => whnf
  ((try ((refine Exists.intro none ?_); (conv => whnf))); first | ((with_reducible refine call_by (k) ?_); conv => whnf))
  (refine Exists.intro _ (And.intro rfl (And.intro (by intro q _; simp only [List.length_nil]; omega) (And.intro (by intro i hi; exact absurd hi (Nat.not_lt_zero i)) ?_))); conv => whnf)
  refine tri_for0 mixed (by kernel_rfl) (fun i : Nat => i ≤ o.length ∧ ∀ j (hj : j < o.length), j < i → tb bits (o[j]'hj).node.toNat = false) (fun i => [(19, iv i)]) [] (fun i => o.length - i) 0 ⟨Nat.zero_le _, fun j _ h => absurd h (Nat.not_lt_zero j)⟩ ?_ ?_
  · conv => whnf
    (refine And.intro (And.intro (by with_unfolding_all rfl) (by intro q h; cases h)) ?_; refine And.intro ?_ (And.intro ?_ ?_) <;> (conv => whnf) <;> (repeat' (first | exact True.intro | (with_reducible exact rfl) | exact (rfl : List.replicate 0 PV.bad = []) | ((with_reducible refine And.intro ?_ ?_) <;> (first | (with_reducible exact wkV_same _ rfl) | exact wkV_pt rfl rfl | exact wkV_ow rfl rfl rfl | (refine wkV_ow rfl rfl ?_) | (refine wkV_sc (congrArg (Value.int .i64) ?_)) | (refine wkV_sc (congrArg Value.bool ?_)) | exact wkV_ls rfl | ((refine wkV_cl ?_); conv => whnf) | ((refine wkV_tu ?_); conv => whnf) | ((refine wkV_ag ?_); conv => whnf) | (conv => whnf))))))
    all_goals rfl
  rintro i ⟨hi, hal⟩
  conv => whnf
  ((first | (with_reducible refine split_dec (fun h => ?_) (fun h => ?_)) | (with_reducible refine split_beq (fun h => ?_) (fun h => ?_)) | (with_reducible refine split_bne (fun h => ?_) (fun h => ?_)) | (with_reducible refine split_not (fun h => ?_) (fun h => ?_)) | (with_reducible refine split_beqS (fun h => ?_) (fun h => ?_)) | (with_reducible refine split_intro (fun h => ?_) (fun h => ?_))) <;> conv => whnf)
  · have hlt : i < o.length := by simp only [List.length_map] at h; omega
    clear h
    obtain ⟨⟨p1, p2⟩, _⟩ := hin _ (List.getElem_mem hlt)
    obtain ⟨n, hn⟩ : ∃ n : Nat, (o[i]'hlt).node = n := ⟨(o[i]'hlt).node.toNat, by omega⟩
    have hb : iand .i64 (ishr .i64 bits (n : Int)) 1 = nb (tb bits n) := bit_shr bits n (by omega)
    have htn : (o[i]'hlt).node.toNat = n := by omega
    (first | ((with_reducible refine And.intro (by omega) (Exists.intro _ (And.intro (row_at hlt) ?_))); conv => whnf))
    rw [hn]
    ((with_reducible refine And.intro (And.intro (by first | decide | omega) (by first | decide | omega)) ?_); conv => whnf)
    rw [hb]
    cases ht : tb bits n with
    | true =>
      conv => whnf
      have hf : o.find? (fun p => tb bits p.node.toNat) = some (o[i]'hlt) := by
        rw [List.find?_eq_some_iff_getElem]
        exact ⟨by rw [htn]; exact ht, i, hlt, rfl, fun j hj => by rw [hal j (by omega) hj]; rfl⟩
      exact exit_plain rfl (by rw [hf]; simp only [hn])
    | false =>
      conv => whnf
      refine ⟨i + 1, ⟨⟨by omega, fun j hj hji => ?_⟩, by omega⟩, ?_⟩
      · by_cases e : j = i
        · subst e; rw [htn]; exact ht
        · exact hal j hj (by omega)
      conv => whnf
      (refine And.intro (And.intro (by with_unfolding_all rfl) (by intro q h; cases h)) ?_; refine And.intro ?_ (And.intro ?_ ?_) <;> (conv => whnf) <;> (repeat' (first | exact True.intro | (with_reducible exact rfl) | exact (rfl : List.replicate 0 PV.bad = []) | ((with_reducible refine And.intro ?_ ?_) <;> (first | (with_reducible exact wkV_same _ rfl) | exact wkV_pt rfl rfl | exact wkV_ow rfl rfl rfl | (refine wkV_ow rfl rfl ?_) | (refine wkV_sc (congrArg (Value.int .i64) ?_)) | (refine wkV_sc (congrArg Value.bool ?_)) | exact wkV_ls rfl | ((refine wkV_cl ?_); conv => whnf) | ((refine wkV_tu ?_); conv => whnf) | ((refine wkV_ag ?_); conv => whnf) | (conv => whnf))))))
      all_goals first | exact w1 (by omega) | rfl | trace_state
  · have hf : o.find? (fun p => tb bits p.node.toNat) = none := by
      rw [List.find?_eq_none]
      intro p hp
      obtain ⟨j, hj, rfl⟩ := List.getElem_of_mem hp
      rw [hal j hj (by simp only [List.length_map] at h; omega)]; simp
    exact exit_plain rfl (by rw [hf])
theorem c_BestN (l : List Pl) (hl : l.length ≤ 4294967) (h : plsB l = false) (bits : Int) : Ctr Try.prog 24 [.sl 4 (l.map Pl.enc), iv bits] (.tu [iv 0, iv 1]) [] := by
  refine spec_of_body mixed Try.func24 rfl (by kernel_rfl) (by kernel_rfl) ?_; conv => whnf
  ((try ((refine Exists.intro none ?_); (conv => whnf))); first | ((with_reducible refine call_by (c_OrderN l hl h) ?_); conv => whnf))
  exact exit_plain rfl rfl
end Go.Proofs
