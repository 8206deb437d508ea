/- Contracts of functions: counts, quorums, steps of configurations (the program's). -/
import Derived.Test.YtnphfgphajejaaaB1
namespace Go.Proofs
open Go.Pv
set_option maxRecDepth 100000

def cnt (b : Int) : Nat → Int
  | 0 => 0
  | n + 1 => cnt b n + nb (tb b n)
def count (b : Int) : Int := cnt b 7
theorem cnt_le (b : Int) : ∀ n, 0 ≤ cnt b n ∧ cnt b n ≤ n
  | 0 => by simp [cnt]
  | n + 1 => by
    have := cnt_le b n
    simp only [cnt]
    rcases nb_cases (tb b n) with h | h <;> rw [h] <;> omega
theorem count_le (b : Int) : 0 ≤ count b ∧ count b ≤ 7 := cnt_le b 7

theorem hasB_nat (b : Int) (i : Nat) (hi : i < 64) : hasB b i = tb b i := by
  unfold hasB
  rw [wrapu_id (by omega) (by omega), bit_shr b i hi]
  cases tb b i <;> rfl

theorem c_rCount (b : Int) : Ctr Try.prog 173 [iv b] (iv (count b)) [] := by
  refine spec_of_body mixed Try.func173 rfl (by kernel_rfl) (by kernel_rfl) ?_; conv => whnf
  refine tri_for0 mixed (by kernel_rfl) (fun i : Nat => i ≤ 7) (fun i => [(4, iv i), (3, iv (cnt b i))]) [] (fun i => 7 - i) 0 (by decide) ?_ ?_
  · conv => whnf
    (refine And.intro (And.intro (by with_unfolding_all rfl) (by intro q h; cases h)) ?_; refine And.intro ?_ (And.intro ?_ ?_) <;> (conv => whnf) <;> (repeat' (first | exact True.intro | (with_reducible exact rfl) | exact (rfl : List.replicate 0 PV.bad = []) | ((with_reducible refine And.intro ?_ ?_) <;> (first | (with_reducible exact wkV_same _ rfl) | exact wkV_pt rfl rfl | exact wkV_ow rfl rfl rfl | (refine wkV_ow rfl rfl ?_) | (refine wkV_sc (congrArg (Value.int .i64) ?_)) | (refine wkV_sc (congrArg Value.bool ?_)) | exact wkV_ls rfl | ((refine wkV_cl ?_); conv => whnf) | ((refine wkV_tu ?_); conv => whnf) | ((refine wkV_ag ?_); conv => whnf) | (conv => whnf))))))
    all_goals rfl
  · intro i hi
    conv => whnf
    repeat' (first | ((first | (with_reducible refine split_dec (fun h => ?_) (fun h => ?_)) | (with_reducible refine split_beq (fun h => ?_) (fun h => ?_)) | (with_reducible refine split_bne (fun h => ?_) (fun h => ?_)) | (with_reducible refine split_not (fun h => ?_) (fun h => ?_)) | (with_reducible refine split_beqS (fun h => ?_) (fun h => ?_)) | (with_reducible refine split_intro (fun h => ?_) (fun h => ?_))) <;> conv => whnf) | ((try ((refine Exists.intro none ?_); (conv => whnf))); first | ((with_reducible refine call_by (c_Has _ _) ?_); conv => whnf)))
    · refine ⟨i + 1, by omega, ?_⟩
      conv => whnf
      rename_i h1
      rw [hasB_nat b i (by omega)] at h
      have := cnt_le b i
      (refine And.intro (And.intro (by with_unfolding_all rfl) (by intro q h; cases h)) ?_; refine And.intro ?_ (And.intro ?_ ?_) <;> (conv => whnf) <;> (repeat' (first | exact True.intro | (with_reducible exact rfl) | exact (rfl : List.replicate 0 PV.bad = []) | ((with_reducible refine And.intro ?_ ?_) <;> (first | (with_reducible exact wkV_same _ rfl) | exact wkV_pt rfl rfl | exact wkV_ow rfl rfl rfl | (refine wkV_ow rfl rfl ?_) | (refine wkV_sc (congrArg (Value.int .i64) ?_)) | (refine wkV_sc (congrArg Value.bool ?_)) | exact wkV_ls rfl | ((refine wkV_cl ?_); conv => whnf) | ((refine wkV_tu ?_); conv => whnf) | ((refine wkV_ag ?_); conv => whnf) | (conv => whnf))))))
      · simp only [cnt, h, nb_true]; exact wrap_id (by omega) (by omega)
      · rw [wrap_id (by omega) (by omega)]; rfl
    · refine ⟨i + 1, by omega, ?_⟩
      conv => whnf
      rename_i h1
      rw [hasB_nat b i (by omega)] at h
      (refine And.intro (And.intro (by with_unfolding_all rfl) (by intro q h; cases h)) ?_; refine And.intro ?_ (And.intro ?_ ?_) <;> (conv => whnf) <;> (repeat' (first | exact True.intro | (with_reducible exact rfl) | exact (rfl : List.replicate 0 PV.bad = []) | ((with_reducible refine And.intro ?_ ?_) <;> (first | (with_reducible exact wkV_same _ rfl) | exact wkV_pt rfl rfl | exact wkV_ow rfl rfl rfl | (refine wkV_ow rfl rfl ?_) | (refine wkV_sc (congrArg (Value.int .i64) ?_)) | (refine wkV_sc (congrArg Value.bool ?_)) | exact wkV_ls rfl | ((refine wkV_cl ?_); conv => whnf) | ((refine wkV_tu ?_); conv => whnf) | ((refine wkV_ag ?_); conv => whnf) | (conv => whnf))))))
      · simp [cnt, h]
      · rw [wrap_id (by omega) (by omega)]; rfl
    · have : i = 7 := by omega
      subst this
      exact exit_plain rfl rfl

theorem c_Count (b : Int) : Ctr Try.prog 54 [iv b] (iv (count b)) [] := by
  refine spec_of_body mixed Try.func54 rfl (by kernel_rfl) (by kernel_rfl) ?_; conv => whnf
  refine tri_rounds mixed (by kernel_rfl) 8 ?_
  conv => whnf
  repeat' ((with_reducible refine And.intro (And.intro (by first | decide | omega) (by first | decide | omega)) ?_); conv => whnf)
  refine exit_plain rfl ?_
  have h0 := bit_shr b 0 (by decide)
  have h1 := bit_shr b 1 (by decide)
  have h2 := bit_shr b 2 (by decide)
  have h3 := bit_shr b 3 (by decide)
  have h4 := bit_shr b 4 (by decide)
  have h5 := bit_shr b 5 (by decide)
  have h6 := bit_shr b 6 (by decide)
  show iv (w64 (w64 (w64 (w64 (w64 (w64 (w64 (0 + band (shr b ((0 : Nat) : Int)) 1) + band (shr b ((1 : Nat) : Int)) 1) + band (shr b ((2 : Nat) : Int)) 1) + band (shr b ((3 : Nat) : Int)) 1) + band (shr b ((4 : Nat) : Int)) 1) + band (shr b ((5 : Nat) : Int)) 1) + band (shr b ((6 : Nat) : Int)) 1)) = _
  rw [h0, h1, h2, h3, h4, h5, h6]
  have e : ∀ k, k ≤ 6 → w64 (cnt b k + nb (tb b k)) = cnt b (k + 1) := by
    intro k hk
    have := cnt_le b k
    rcases nb_cases (tb b k) with h | h <;> simp only [cnt, h] <;> exact wrap_id (by omega) (by omega)
  rw [show (0 : Int) = cnt b 0 from rfl, e 0 (by decide), e 1 (by decide), e 2 (by decide), e 3 (by decide), e 4 (by decide), e 5 (by decide), e 6 (by decide)]
  rfl

noncomputable def checkR (c : Conf) : Int :=
  if c.full < 0 ∨ 127 < c.full ∨ band c.full 0 ≠ 0 then 14 else
  if c.wit < 0 ∨ 127 < c.wit ∨ band c.wit (bor 0 c.full) ≠ 0 then 14 else
  if c.learn < 0 ∨ 127 < c.learn ∨ band c.learn (bor (bor 0 c.full) c.wit) ≠ 0 then 14 else
  if c.lwit < 0 ∨ 127 < c.lwit ∨ band c.lwit (bor (bor (bor 0 c.full) c.wit) c.learn) ≠ 0 then 14 else
  if c.full = 0 then 14 else 0

theorem c_Check0 (c : Conf) : Ctr Try.prog 50 [.ag c.enc] (iv (checkR c)) [] := by
  refine spec_of_body mixed Try.func50 rfl (by kernel_rfl) (by kernel_rfl) ?_; conv => whnf
  refine tri_rounds mixed (by kernel_rfl) 5 ?_
  conv => whnf
  repeat' (first | ((first | (with_reducible refine split_dec (fun h => ?_) (fun h => ?_)) | (with_reducible refine split_beq (fun h => ?_) (fun h => ?_)) | (with_reducible refine split_bne (fun h => ?_) (fun h => ?_)) | (with_reducible refine split_not (fun h => ?_) (fun h => ?_)) | (with_reducible refine split_beqS (fun h => ?_) (fun h => ?_)) | (with_reducible refine split_intro (fun h => ?_) (fun h => ?_))) <;> conv => whnf) | ((with_reducible refine And.intro (by with_unfolding_all decide) ?_); refine Exists.intro _ (And.intro (by with_unfolding_all rfl) ?_); conv => whnf))
  all_goals (refine exit_plain rfl ?_)
  all_goals simp [checkR, band, bor, *]

/-- A right configuration, bit by bit. -/
structure Cok (c : Conf) : Prop where
  f : Bits7 c.full
  w : Bits7 c.wit
  l : Bits7 c.learn
  x : Bits7 c.lwit
  ne : c.full ≠ 0
  fw : ∀ i : Nat, (tb c.full i && tb c.wit i) = false
  fl : ∀ i : Nat, (tb c.full i && tb c.learn i) = false
  wl : ∀ i : Nat, (tb c.wit i && tb c.learn i) = false
  fx : ∀ i : Nat, (tb c.full i && tb c.lwit i) = false
  wx : ∀ i : Nat, (tb c.wit i && tb c.lwit i) = false
  lx : ∀ i : Nat, (tb c.learn i && tb c.lwit i) = false

theorem and0 {a b : Int} : band a b = 0 ↔ ∀ i : Nat, (tb a i && tb b i) = false := by
  rw [eq0_iff (isI_band a b)]
  constructor
  · intro h i
    by_cases hi : i < 64
    · rw [← tb_and]; exact h i hi
    · rw [show tb a i = false from BitVec.getLsbD_of_ge _ _ (by omega)]; rfl
  · intro h i _
    rw [tb_and]; exact h i

theorem confB_iff (c : Conf) : confB c = true ↔ Cok c := by
  unfold confB
  simp only [Bool.and_eq_true, withinB, decide_eq_true_eq, bne_iff_ne, beq_iff_eq, and0]
  constructor
  · rintro ⟨h1, h2, h3, h4, h5, h6, h7, h9⟩
    refine ⟨h1, h2, h3, h4, h5, h6, ?_, ?_, ?_, ?_, ?_⟩ <;> intro i <;> have h7 := h7 i <;> have h9 := h9 i <;> rw [tb_or] at h7 <;> rw [tb_or, tb_or] at h9 <;> revert h7 h9 <;> cases tb c.full i <;> cases tb c.wit i <;> cases tb c.learn i <;> cases tb c.lwit i <;> simp
  · rintro ⟨h1, h2, h3, h4, h5, h6, h7, h8, h9, h10, h11⟩
    refine ⟨h1, h2, h3, h4, h5, h6, ?_, ?_⟩ <;> intro i <;> simp only [tb_or] <;> have h7 := h7 i <;> have h8 := h8 i <;> have h9 := h9 i <;> have h10 := h10 i <;> have h11 := h11 i <;> revert h7 h8 h9 h10 h11 <;> cases tb c.full i <;> cases tb c.wit i <;> cases tb c.learn i <;> cases tb c.lwit i <;> simp

theorem checkR_eq (c : Conf) : checkR c = if confB c then 0 else 14 := by
  have hc : ∀ a b : Int, band a b = band b a := by
    intro a b
    exact ext64 (isI_band _ _) (isI_band _ _) fun i _ => by rw [tb_and, tb_and, Bool.and_comm]
  have h0 : ∀ a : Int, band a 0 = 0 := by
    intro a; rw [and0]; intro i; simp [tb_zero]
  have ho : ∀ a x : Int, band a (bor 0 x) = band x a := by
    intro a x
    exact ext64 (isI_band _ _) (isI_band _ _) fun i _ => by rw [tb_and, tb_and, tb_or, tb_zero, Bool.false_or, Bool.and_comm]
  have ho2 : ∀ a x y : Int, band a (bor (bor 0 x) y) = band (bor x y) a := by
    intro a x y
    exact ext64 (isI_band _ _) (isI_band _ _) fun i _ => by simp only [tb_and, tb_or, tb_zero, Bool.false_or]; rw [Bool.and_comm]
  have ho3 : ∀ a x y z : Int, band a (bor (bor (bor 0 x) y) z) = band (bor (bor x y) z) a := by
    intro a x y z
    exact ext64 (isI_band _ _) (isI_band _ _) fun i _ => by simp only [tb_and, tb_or, tb_zero, Bool.false_or]; rw [Bool.and_comm]
  unfold checkR
  simp only [h0, ho, ho2, ho3]
  by_cases h : confB c = true
  · rw [if_pos h]
    unfold confB at h
    simp only [Bool.and_eq_true, withinB, decide_eq_true_eq, bne_iff_ne, beq_iff_eq] at h
    obtain ⟨h1, h2, h3, h4, h5, h6, h7, h8⟩ := h
    rw [if_neg (by omega), if_neg (by omega), if_neg (by omega), if_neg (by omega), if_neg h5]
  · rw [if_neg h]
    unfold confB at h
    simp only [Bool.and_eq_true, withinB, decide_eq_true_eq, bne_iff_ne, beq_iff_eq] at h
    repeat' split
    all_goals first | rfl | skip
    exfalso; apply h
    refine ⟨?_, ?_, ?_, ?_, ?_, ?_, ?_, ?_⟩ <;> omega

theorem c_Check (c : Conf) : Ctr Try.prog 50 [.ag c.enc] (iv (if confB c then 0 else 14)) [] := by
  rw [← checkR_eq]; exact c_Check0 c

theorem c_Voters (c : Conf) : Ctr Try.prog 53 [.ag c.enc] (iv (bor c.full c.wit)) [] := by
  refine spec_of_body mixed Try.func53 rfl (by kernel_rfl) (by kernel_rfl) ?_; conv => whnf
  exact exit_plain rfl rfl
theorem c_rVoters (c : Conf) : Ctr Try.prog 49 [.ag c.enc] (iv (bor c.full c.wit)) [] := by
  refine spec_of_body mixed Try.func49 rfl (by kernel_rfl) (by kernel_rfl) ?_; conv => whnf
  exact exit_plain rfl rfl
theorem c_All (c : Conf) : Ctr Try.prog 187 [.ag c.enc] (iv (bor (bor (bor c.full c.wit) c.learn) c.lwit)) [] := by
  refine spec_of_body mixed Try.func187 rfl (by kernel_rfl) (by kernel_rfl) ?_; conv => whnf
  exact exit_plain rfl rfl

noncomputable def quorum (c : Conf) (b : Int) : Bool := decide (count (bor c.full c.wit) < 2 * count (band (bor c.full c.wit) b))

theorem c_Quorum (c : Conf) (b : Int) : Ctr Try.prog 52 [.ag c.enc, iv b] (bv (quorum c b)) [] := by
  refine spec_of_body mixed Try.func52 rfl (by kernel_rfl) (by kernel_rfl) ?_; conv => whnf
  repeat' (first | ((try ((refine Exists.intro none ?_); (conv => whnf))); first | ((with_reducible refine call_by (c_Voters c) ?_); conv => whnf) | ((with_reducible refine call_by (c_Count _) ?_); conv => whnf)) | ((with_reducible refine And.intro (And.intro (by first | decide | omega) (by first | decide | omega)) ?_); conv => whnf))
  refine exit_plain rfl ?_
  have h1 := count_le (bor c.full c.wit)
  have h2 := count_le (band (bor c.full c.wit) b)
  show bv (decide (w64 ((count (bor c.full c.wit)).tdiv 2) < count (band (bor c.full c.wit) b))) = _
  rw [Int.tdiv_eq_ediv_of_nonneg h1.1]
  rw [show w64 (count (bor c.full c.wit) / 2) = count (bor c.full c.wit) / 2 from wrap_id (by omega) (by omega)]
  exact congrArg (fun b : Bool => bv b) (decide_eq_decide.2 (by omega))

theorem c_rQuorum (c : Conf) (b : Int) : Ctr Try.prog 70 [.ag c.enc, iv b] (bv (quorum c b)) [] := by
  refine spec_of_body mixed Try.func70 rfl (by kernel_rfl) (by kernel_rfl) ?_; conv => whnf
  repeat' (first | ((try ((refine Exists.intro none ?_); (conv => whnf))); first | ((with_reducible refine call_by (c_rVoters c) ?_); conv => whnf) | ((with_reducible refine call_by (c_rCount _) ?_); conv => whnf)) | ((with_reducible refine And.intro (And.intro (by first | decide | omega) (by first | decide | omega)) ?_); conv => whnf))
  refine exit_plain rfl ?_
  have h1 := count_le (bor c.full c.wit)
  have h2 := count_le (band (bor c.full c.wit) b)
  have e1 : ∀ x y : Int, (∀ i, i < 7 → tb x i = tb y i) → count x = count y := by
    intro x y h
    simp only [count, cnt, h 0 (by decide), h 1 (by decide), h 2 (by decide), h 3 (by decide), h 4 (by decide), h 5 (by decide), h 6 (by decide)]
  show bv (decide (count (band (bor c.full c.wit) 127) < w64 (2 * count (band (band (bor c.full c.wit) 127) b)))) = _
  rw [e1 (band (bor c.full c.wit) 127) (bor c.full c.wit) (fun i hi => by rw [tb_and, tb_127]; simp [hi]),
    e1 (band (band (bor c.full c.wit) 127) b) (band (bor c.full c.wit) b) (fun i hi => by rw [tb_and, tb_and, tb_and, tb_127]; simp [hi])]
  rw [show w64 (2 * count (band (bor c.full c.wit) b)) = 2 * count (band (bor c.full c.wit) b) from wrap_id (by omega) (by omega)]
  rfl

end Go.Proofs
