/- Plain law: a leader that feeds comes down to where the logs fit. -/
import Derived.Test.YtjgcblmkejnijaaC54
set_option linter.unusedSimpArgs false
set_option linter.unusedVariables false
namespace Go.Proofs
open Go.Pv
set_option maxRecDepth 100000

def feedP (g : Hrd) (next : Int) : Int := emin (next - 1) (lastI g)
def feedL (g : Hrd) (next : Int) : List Ent := fromL g (feedP g next + 1) 8
def feedM (g : Hrd) (next : Int) : Mg := ⟨5, 0, 0, 0, feedP g next, termAt g (feedP g next), 0, 0, false, feedL g next, ⟨0, 0, 0, 0⟩, [], []⟩
theorem feed_at {g : Hrd} {next : Int} (hg : hardB g = true) (hl : g.log.length ≤ 4294967) (hn : g.base < next) : ∃ n : Nat, feedP g next = g.base + n ∧ n ≤ g.log.length ∧ feedL g next = (g.log.drop n).take 8 ∧ termAt g (feedP g next) = behind g.log g.baseTerm n := by
  have hla := hard_last hg hl
  have hp : feedP g next = min (next - 1) (lastI g) := emin_eq _ _
  obtain ⟨n, e, hle⟩ : ∃ n : Nat, feedP g next = g.base + n ∧ n ≤ g.log.length := ⟨(feedP g next - g.base).toNat, by omega, by omega⟩
  refine ⟨n, e, hle, ?_, termAt_nat e hle⟩
  unfold feedL
  rw [e, fromL_eq (by omega) (by omega), show (g.base + (n : Int) + 1 - g.base - 1).toNat = n by omega]
  rfl

theorem rowB_split {l : List Ent} {b t : Int} (n : Nat) (hn : n ≤ l.length) (h : rowB l b t = true) : rowB (l.take n) b t = true ∧ rowB (l.drop n) (behind l b n) t = true := by
  have h2 := h
  rw [← List.take_append_drop n l, rowB_append, Bool.and_eq_true, behind_take l b n hn] at h2
  exact h2
theorem rowB_mono : ∀ (l : List Ent) (b t t' : Int), t ≤ t' → rowB l b t = true → rowB l b t' = true
  | [], _, _, _, _, _ => rfl
  | x :: l, b, t, t', h, e => by
    simp only [rowB, Bool.and_eq_true, decide_eq_true_eq] at e ⊢
    exact ⟨⟨⟨e.1.1.1, by omega⟩, e.1.2⟩, rowB_mono l x.term t t' h e.2⟩
theorem rowB_mem : ∀ (l : List Ent) (b t : Int), rowB l b t = true → ∀ x ∈ l, 1 ≤ x.term ∧ x.term ≤ t
  | [], _, _, _, x, hx => by cases hx
  | y :: l, b, t, e, x, hx => by
    simp only [rowB, Bool.and_eq_true, decide_eq_true_eq] at e
    rcases List.mem_cons.1 hx with rfl | hx
    · omega
    · exact rowB_mem l y.term t e.2 x hx
theorem behind_ge {l : List Ent} {b t : Int} (n : Nat) (h : rowB l b t = true) (hb : 0 ≤ b) : 0 ≤ behind l b n := by
  unfold behind
  cases he : (l.take n).getLast? with
  | none => exact hb
  | some x =>
    have := (rowB_mem l b t h x (List.mem_of_mem_take (List.mem_of_getLast? he))).1
    show 0 ≤ x.term
    omega
theorem putM_max : ∀ g l : List Ent, (putM g l).length ≤ max g.length l.length
  | g, [] => by cases g <;> simp [putM]
  | [], x :: l => by simp [putM]
  | y :: g, x :: l => by
    have := putM_max g l
    rw [putM]
    split <;> simp only [List.length_cons] <;> omega

def agr (g h : Hrd) (n : Nat) : Prop := ∀ k, k < n → ∃ a b, g.log[k]? = some a ∧ h.log[k]? = some b ∧ a.term = b.term
theorem agr_0 (g h : Hrd) : agr g h 0 := fun k hk => absurd hk (Nat.not_lt_zero k)

def nxN (next mt : Int) (yes : Bool) (i : Int) : Int := if yes = true then max next (max mt i + 1) else max (min (next - 1) (i + 1)) (mt + 1)
def nxM (mt : Int) (yes : Bool) (i : Int) : Int := if yes = true then max mt i else mt

structure Fs where
  h : Hrd
  next : Int
  mt : Int
  i : Nat
structure FInv (g h0 : Hrd) (s : Fs) : Prop where
  hard : hardB s.h = true
  base : s.h.base = 0
  term : g.term ≤ s.h.term
  len : s.h.log.length ≤ 40
  ph : (s.h = h0 ∧ s.mt = 0 ∧ 1 ≤ s.next ∧ (s.i : Int) + s.next ≤ g.log.length + 1) ∨ (0 ≤ s.mt ∧ s.mt ≤ g.log.length ∧ s.next = s.mt + 1 ∧ (s.i : Int) ≤ g.log.length + 1 + s.mt ∧ agr g s.h s.mt.toNat)

theorem behind_agr {g h : Hrd} {n : Nat} (hn : n ≤ g.log.length) (hbt : g.baseTerm = h.baseTerm) (k : agr g h n) : n ≤ h.log.length ∧ behind h.log h.baseTerm n = behind g.log g.baseTerm n := by
  cases n with
  | zero => exact ⟨Nat.zero_le _, by rw [behind_0, behind_0, hbt]⟩
  | succ j =>
    obtain ⟨a, b, h1, h2, h3⟩ := k j (by omega)
    obtain ⟨l1, e1⟩ := List.getElem?_eq_some_iff.1 h1
    obtain ⟨l2, e2⟩ := List.getElem?_eq_some_iff.1 h2
    exact ⟨l2, by rw [behind_succ l2, behind_succ l1, e1, e2, h3]⟩

theorem find_step {g h0 : Hrd} {s : Fs} (hg : hardB g = true) (hgb : g.base = 0) (hgl : g.log.length ≤ 40)
    (hm : ∀ (j : Nat) (a b : Ent), g.log[j]? = some a → h0.log[j]? = some b → a.term = b.term → agr g h0 (j + 1)) (k : FInv g h0 s) (hlt : s.mt < g.log.length) :
    growE s.h 0 (feedM g s.next) = 0 ∧ FInv g h0 ⟨(growO s.h 0 (feedM g s.next)).h, nxN s.next s.mt (growO s.h 0 (feedM g s.next)).yes (growO s.h 0 (feedM g s.next)).i, nxM s.mt (growO s.h 0 (feedM g s.next)).yes (growO s.h 0 (feedM g s.next)).i, s.i + 1⟩ := by
  obtain ⟨gA, _, _, gR⟩ := hardB_A hg
  obtain ⟨hA, _, _, hRw⟩ := hardB_A k.hard
  have hbt1 : g.baseTerm = 0 := gA.z.2 hgb
  have hbt2 : s.h.baseTerm = 0 := hA.z.2 k.base
  have hnx : 1 ≤ s.next ∧ s.next ≤ g.log.length + 1 := by
    rcases k.ph with ⟨_, _, _, _⟩ | ⟨_, _, _, _, _⟩ <;> omega
  obtain ⟨n, e1, e2, e3, e4⟩ := feed_at hg (by omega) (show g.base < s.next by omega)
  have hla := hard_last hg (by omega)
  have hlh := hard_last k.hard (by have := k.len; omega)
  have hn : (n : Int) = s.next - 1 := by
    have hp : feedP g s.next = min (s.next - 1) (lastI g) := emin_eq _ _
    omega
  have hlen := k.len
  have hbase := k.base
  have hP : gP s.h (feedM g s.next) = n := by
    unfold gP
    show (if feedP g s.next < s.h.base then s.h.base else feedP g s.next) = _
    rw [if_neg (by omega)]; omega
  have hT : gT s.h (feedM g s.next) = behind g.log g.baseTerm n := by
    unfold gT
    show (if feedP g s.next < s.h.base then s.h.baseTerm else termAt g (feedP g s.next)) = _
    rw [if_neg (by omega), e4]
  have hL : gL s.h (feedM g s.next) = (g.log.drop n).take 8 := by
    unfold gL
    show List.drop (s.h.base - feedP g s.next).toNat (feedL g s.next) = _
    rw [e3, show (s.h.base - feedP g s.next).toNat = 0 by omega, List.drop_zero]
  have hbg : 0 ≤ behind g.log g.baseTerm n := behind_ge n gR (by omega)
  have hLl : ((g.log.drop n).take 8).length = min 8 (g.log.length - n) := by rw [List.length_take, List.length_drop]
  have hR : gRight s.h 0 (feedM g s.next) := by
    refine ⟨⟨by omega, by omega⟩, ⟨?_, ?_⟩, ?_, ?_, ?_⟩
    · show 0 ≤ feedP g s.next
      omega
    · show feedP g s.next ≤ _
      omega
    · show 0 ≤ termAt g (feedP g s.next)
      omega
    · exact Int.le_refl _
    · show ((feedL g s.next).length : Int) ≤ 8
      rw [e3, hLl]; omega
  have hK : gBrk s.h 0 (gP s.h (feedM g s.next)) (gL s.h (feedM g s.next)) = false := by
    refine gBrk_f fun j _ hle => ?_
    rw [hP] at hle
    omega
  have hfa : agr g s.h n → fits s.h (gP s.h (feedM g s.next)) (gT s.h (feedM g s.next)) = true := fun ka => by
    obtain ⟨q1, q2⟩ := behind_agr e2 (by omega) ka
    rw [hP, hT]
    unfold fits
    rw [termAt_nat (h := s.h) (n := n) (by omega) q1, q2]
    simp only [Bool.and_eq_true, bne_iff_ne, ne_eq, beq_self_eq_true, and_true]
    omega
  cases hf : fits s.h (gP s.h (feedM g s.next)) (gT s.h (feedM g s.next)) with
  | false =>
    obtain ⟨E, O⟩ := growE_no k.hard hR hf
    refine ⟨E, ?_⟩
    rw [O]
    have hna : ¬ agr g s.h n := fun ka => by rw [hfa ka] at hf; cases hf
    rcases k.ph with ⟨A1, A2, A3, A4⟩ | ⟨B1, B2, B3, B4, B5⟩
    · have hn1 : n ≠ 0 := fun e => hna (by rw [e]; exact agr_0 g s.h)
      refine ⟨k.hard, k.base, k.term, k.len, .inl ⟨A1, A2, ?_, ?_⟩⟩
      · show 1 ≤ nxN s.next s.mt false _
        unfold nxN
        rw [if_neg (by decide)]
        omega
      · show ((s.i + 1 : Nat) : Int) + nxN s.next s.mt false _ ≤ _
        unfold nxN
        rw [if_neg (by decide)]
        omega
    · exact absurd (show agr g s.h n by rw [show n = s.mt.toNat by omega]; exact B5) hna
  | true =>
    obtain ⟨E, O⟩ := growE_put k.hard hR hf hK
    have hff := hf
    rw [hP, hT] at hff
    have hin : n ≤ s.h.log.length := by
      by_cases e0 : n = 0
      · omega
      · have := fits_in (by omega) hff (by omega)
        omega
    have hbh : behind s.h.log s.h.baseTerm n = behind g.log g.baseTerm n := by
      unfold fits at hff
      simp only [Bool.and_eq_true, beq_iff_eq] at hff
      rw [← hff.2, termAt_nat (by omega) hin]
    have hag : agr g s.h n := by
      rcases k.ph with ⟨A1, A2, A3, A4⟩ | ⟨B1, B2, B3, B4, B5⟩
      · cases n with
        | zero => exact agr_0 g s.h
        | succ j =>
          rw [behind_succ hin, behind_succ e2] at hbh
          have hh : h0.log[j]? = some (s.h.log[j]'hin) := by rw [← A1]; exact List.getElem?_eq_getElem hin
          rw [A1]
          exact hm j _ _ (List.getElem?_eq_getElem e2) hh hbh.symm
      · rw [show n = s.mt.toNat by omega]; exact B5
    have ko : PutOk s.h (gP s.h (feedM g s.next)) (gL s.h (feedM g s.next)) n := ⟨k.hard, by omega, hin, by
      rw [hL, hbh]
      have r1 := (rowB_split n e2 gR).2
      have r2 := (rowB_split (min 8 (g.log.drop n).length) (Nat.min_le_right _ _) r1).1
      have r3 : (g.log.drop n).take (min 8 (g.log.drop n).length) = (g.log.drop n).take 8 := by
        rw [← List.take_take, List.take_length]
      rw [r3] at r2
      exact rowB_mono _ _ _ _ k.term r2⟩
    rw [O, E, ko.log, hL, hP]
    refine ⟨(by have q := ko.e (by omega); rw [hL, hP] at q; exact q), ?_⟩
    have hx := ko.right
    rw [ko.log, hL] at hx
    have hlx : (putG s.h.log n ((g.log.drop n).take 8)).length ≤ 40 := by
      have := putM_max (s.h.log.drop n) ((g.log.drop n).take 8)
      rw [List.length_drop, hLl] at this
      unfold putG
      rw [List.length_append, List.length_take]
      omega
    have hmt : s.mt ≤ n := by
      rcases k.ph with ⟨A1, A2, A3, A4⟩ | ⟨B1, B2, B3, B4, B5⟩ <;> omega
    have eM : nxM s.mt true ((n : Int) + ((g.log.drop n).take 8).length) = ((n + ((g.log.drop n).take 8).length : Nat) : Int) := by
      unfold nxM
      rw [if_pos rfl]; omega
    have eN : nxN s.next s.mt true ((n : Int) + ((g.log.drop n).take 8).length) = ((n + ((g.log.drop n).take 8).length : Nat) : Int) + 1 := by
      unfold nxN
      rw [if_pos rfl]; omega
    refine ⟨hx, k.base, k.term, hlx, .inr ?_⟩
    show 0 ≤ nxM s.mt true _ ∧ nxM s.mt true _ ≤ _ ∧ nxN s.next s.mt true _ = nxM s.mt true _ + 1 ∧ ((s.i + 1 : Nat) : Int) ≤ _ + nxM s.mt true _ ∧ agr g _ (nxM s.mt true _).toNat
    rw [eM, eN, Int.toNat_natCast]
    have hi : (s.i : Int) ≤ g.log.length + (n + ((g.log.drop n).take 8).length : Nat) := by
      rcases k.ph with ⟨A1, A2, A3, A4⟩ | ⟨B1, B2, B3, B4, B5⟩ <;> omega
    refine ⟨by omega, by omega, rfl, by omega, ?_⟩
    intro j hj
    by_cases hjn : j < n
    · obtain ⟨a, b, q1, q2, q3⟩ := hag j hjn
      refine ⟨a, b, q1, ?_, q3⟩
      have := congrArg (fun z => z[j]?) (putG_take s.h.log ((g.log.drop n).take 8) hin)
      try simp only at this
      rw [List.getElem?_take_of_lt hjn, List.getElem?_take_of_lt hjn] at this
      exact this.trans q2
    · obtain ⟨i, rfl⟩ : ∃ i, j = n + i := ⟨j - n, by omega⟩
      have hil : i < ((g.log.drop n).take 8).length := by omega
      obtain ⟨a, ha1, ha2⟩ := putM_term (s.h.log.drop n) ((g.log.drop n).take 8) i hil
      rw [← putG_drop s.h.log ((g.log.drop n).take 8) hin, List.getElem?_drop] at ha1
      refine ⟨_, a, List.getElem?_eq_getElem (by omega), ha1, ?_⟩
      rw [ha2, List.getElem_take, List.getElem_drop]
end Go.Proofs
