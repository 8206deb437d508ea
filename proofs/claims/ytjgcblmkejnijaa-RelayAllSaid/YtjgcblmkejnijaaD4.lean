/- Contracts of functions: places in order, the best one. -/
import Derived.Test.YtjgcblmkejnijaaD3
import Derived.Test.YtjgcblmkejnijaaC13
set_option linter.unusedSimpArgs false
set_option linter.unusedVariables false
namespace Go.Proofs
open Go.Pv
set_option maxRecDepth 100000

theorem c_Len64_0 : Ctr Try.prog 132 [.sc (.int .u64 0)] (iv 0) [] := by
  refine spec_of_body mixed Try.func132 rfl (by kernel_rfl) (by kernel_rfl) ?_; conv => whnf
  refine ⟨by with_unfolding_all decide, (0 : UInt8), by kernel_rfl, ?_⟩
  conv => whnf
  exact exit_plain rfl (by kernel_rfl)
theorem c_Len64_1 : Ctr Try.prog 132 [.sc (.int .u64 1)] (iv 1) [] := by
  refine spec_of_body mixed Try.func132 rfl (by kernel_rfl) (by kernel_rfl) ?_; conv => whnf
  refine ⟨by with_unfolding_all decide, (1 : UInt8), by kernel_rfl, ?_⟩
  conv => whnf
  exact exit_plain rfl (by kernel_rfl)
theorem c_Len64_2 : Ctr Try.prog 132 [.sc (.int .u64 2)] (iv 2) [] := by
  refine spec_of_body mixed Try.func132 rfl (by kernel_rfl) (by kernel_rfl) ?_; conv => whnf
  refine ⟨by with_unfolding_all decide, (2 : UInt8), by kernel_rfl, ?_⟩
  conv => whnf
  exact exit_plain rfl (by kernel_rfl)
theorem c_Len64_3 : Ctr Try.prog 132 [.sc (.int .u64 3)] (iv 2) [] := by
  refine spec_of_body mixed Try.func132 rfl (by kernel_rfl) (by kernel_rfl) ?_; conv => whnf
  refine ⟨by with_unfolding_all decide, (2 : UInt8), by kernel_rfl, ?_⟩
  conv => whnf
  exact exit_plain rfl (by kernel_rfl)
theorem c_Len64_4 : Ctr Try.prog 132 [.sc (.int .u64 4)] (iv 3) [] := by
  refine spec_of_body mixed Try.func132 rfl (by kernel_rfl) (by kernel_rfl) ?_; conv => whnf
  refine ⟨by with_unfolding_all decide, (3 : UInt8), by kernel_rfl, ?_⟩
  conv => whnf
  exact exit_plain rfl (by kernel_rfl)
theorem c_Len64_5 : Ctr Try.prog 132 [.sc (.int .u64 5)] (iv 3) [] := by
  refine spec_of_body mixed Try.func132 rfl (by kernel_rfl) (by kernel_rfl) ?_; conv => whnf
  refine ⟨by with_unfolding_all decide, (3 : UInt8), by kernel_rfl, ?_⟩
  conv => whnf
  exact exit_plain rfl (by kernel_rfl)
theorem c_Len64_6 : Ctr Try.prog 132 [.sc (.int .u64 6)] (iv 3) [] := by
  refine spec_of_body mixed Try.func132 rfl (by kernel_rfl) (by kernel_rfl) ?_; conv => whnf
  refine ⟨by with_unfolding_all decide, (3 : UInt8), by kernel_rfl, ?_⟩
  conv => whnf
  exact exit_plain rfl (by kernel_rfl)
theorem c_Len64_7 : Ctr Try.prog 132 [.sc (.int .u64 7)] (iv 3) [] := by
  refine spec_of_body mixed Try.func132 rfl (by kernel_rfl) (by kernel_rfl) ?_; conv => whnf
  refine ⟨by with_unfolding_all decide, (3 : UInt8), by kernel_rfl, ?_⟩
  conv => whnf
  exact exit_plain rfl (by kernel_rfl)
theorem c_Len64_8 : Ctr Try.prog 132 [.sc (.int .u64 8)] (iv 4) [] := by
  refine spec_of_body mixed Try.func132 rfl (by kernel_rfl) (by kernel_rfl) ?_; conv => whnf
  refine ⟨by with_unfolding_all decide, (4 : UInt8), by kernel_rfl, ?_⟩
  conv => whnf
  exact exit_plain rfl (by kernel_rfl)
theorem c_Len64_9 : Ctr Try.prog 132 [.sc (.int .u64 9)] (iv 4) [] := by
  refine spec_of_body mixed Try.func132 rfl (by kernel_rfl) (by kernel_rfl) ?_; conv => whnf
  refine ⟨by with_unfolding_all decide, (4 : UInt8), by kernel_rfl, ?_⟩
  conv => whnf
  exact exit_plain rfl (by kernel_rfl)
theorem c_Len64_10 : Ctr Try.prog 132 [.sc (.int .u64 10)] (iv 4) [] := by
  refine spec_of_body mixed Try.func132 rfl (by kernel_rfl) (by kernel_rfl) ?_; conv => whnf
  refine ⟨by with_unfolding_all decide, (4 : UInt8), by kernel_rfl, ?_⟩
  conv => whnf
  exact exit_plain rfl (by kernel_rfl)
theorem c_Len64_11 : Ctr Try.prog 132 [.sc (.int .u64 11)] (iv 4) [] := by
  refine spec_of_body mixed Try.func132 rfl (by kernel_rfl) (by kernel_rfl) ?_; conv => whnf
  refine ⟨by with_unfolding_all decide, (4 : UInt8), by kernel_rfl, ?_⟩
  conv => whnf
  exact exit_plain rfl (by kernel_rfl)
theorem c_Len64_12 : Ctr Try.prog 132 [.sc (.int .u64 12)] (iv 4) [] := by
  refine spec_of_body mixed Try.func132 rfl (by kernel_rfl) (by kernel_rfl) ?_; conv => whnf
  refine ⟨by with_unfolding_all decide, (4 : UInt8), by kernel_rfl, ?_⟩
  conv => whnf
  exact exit_plain rfl (by kernel_rfl)
theorem c_Len64 (k : Nat) (hk : k < 13) : ∃ r : Int, Ctr Try.prog 132 [.sc (.int .u64 (k : Int))] (iv r) [] := by
  have : k = 0 ∨ k = 1 ∨ k = 2 ∨ k = 3 ∨ k = 4 ∨ k = 5 ∨ k = 6 ∨ k = 7 ∨ k = 8 ∨ k = 9 ∨ k = 10 ∨ k = 11 ∨ k = 12 := by omega
  rcases this with rfl | rfl | rfl | rfl | rfl | rfl | rfl | rfl | rfl | rfl | rfl | rfl | rfl
  · exact ⟨_, c_Len64_0⟩
  · exact ⟨_, c_Len64_1⟩
  · exact ⟨_, c_Len64_2⟩
  · exact ⟨_, c_Len64_3⟩
  · exact ⟨_, c_Len64_4⟩
  · exact ⟨_, c_Len64_5⟩
  · exact ⟨_, c_Len64_6⟩
  · exact ⟨_, c_Len64_7⟩
  · exact ⟨_, c_Len64_8⟩
  · exact ⟨_, c_Len64_9⟩
  · exact ⟨_, c_Len64_10⟩
  · exact ⟨_, c_Len64_11⟩
  · exact ⟨_, c_Len64_12⟩

theorem c_pdq (l : List Pl) (hl : l.length ≤ 12) (m : Int) :
    CtrE Try.prog 96 [.ow 1000000 0 (l.map Pl.enc).length, iv 0, iv (l.length : Nat), iv m, .cl 57 []] [] [(1000000, some (false, 4, l.map Pl.enc))] (.tu []) [] [(1000000, some (false, 4, (sortA l).map Pl.enc))] := by
  refine spec_of_bodyE mixed Try.func96 rfl (by kernel_rfl) (by kernel_rfl) ?_; conv => whnf
  refine tri_rounds mixed (by kernel_rfl) 2 ?_
  conv => whnf
  rw [show IntKind.i64.wrap ((l.length : Int) - 0) = l.length from by rw [wrap_id (by omega) (by omega)]; omega]
  ((first | (with_reducible refine split_dec (fun h => ?_) (fun h => ?_)) | (with_reducible refine split_beq (fun h => ?_) (fun h => ?_)) | (with_reducible refine split_bne (fun h => ?_) (fun h => ?_)) | (with_reducible refine split_not (fun h => ?_) (fun h => ?_)) | (with_reducible refine split_beqS (fun h => ?_) (fun h => ?_)) | (with_reducible refine split_intro (fun h => ?_) (fun h => ?_))) <;> conv => whnf)
  · ((refine Exists.intro (some ([], [(1000000, 1000000)], [])) ?_); (conv => whnf); first | ((with_reducible refine callE_by (c_insSort l (by omega)) ?_); conv => whnf))
    (refine ExitE.mk ⟨[(1000000, 1000000)], [], ?_⟩; (conv => whnf); (refine And.intro (And.intro (by with_unfolding_all rfl) (by intro q h; cases h)) ?_; refine And.intro ?_ (And.intro ?_ ?_) <;> (conv => whnf) <;> (repeat' (first | exact True.intro | (with_reducible exact rfl) | exact (rfl : List.replicate 0 PV.bad = []) | ((with_reducible refine And.intro ?_ ?_) <;> (first | (with_reducible exact wkV_same _ rfl) | exact wkV_pt rfl rfl | exact wkV_ow rfl rfl rfl | (refine wkV_ow rfl rfl ?_) | (refine wkV_sc (congrArg (Value.int .i64) ?_)) | (refine wkV_sc (congrArg Value.bool ?_)) | exact wkV_ls rfl | ((refine wkV_cl ?_); conv => whnf) | ((refine wkV_tu ?_); conv => whnf) | ((refine wkV_ag ?_); conv => whnf) | (conv => whnf)))))))
    all_goals first | rfl | trace_state
  · exfalso; omega
theorem c_ClonePls (l : List Pl) (h : l.length ≤ 4294967296) : Ctr Try.prog 55 [.sl 4 (l.map Pl.enc)] (.ow 0 0 (l.map Pl.enc).length) [(4, l.map Pl.enc)] := by
  have h' : (l.map Pl.enc).length ≤ 4294967296 := by simpa using h
  refine spec_of_body mixed Try.func55 rfl (by kernel_rfl) (by kernel_rfl) ?_; conv => whnf
  refine ⟨fun e => ?_, ?_⟩ <;> conv => whnf
  · have : l = [] := by simpa using e
    subst this
    exact exit_nil 4
  · refine ⟨rfl, ?_⟩
    conv => whnf
    refine ⟨⟨⟨small h' (by kernel_rfl), smallM h'⟩, rfl⟩, ?_⟩
    conv => whnf
    exact exit_own [(0, 112)] rfl ⟨rfl, True.intro⟩ (wkV_ow rfl rfl rfl)
theorem c_Len (k : Nat) (hk : k < 13) : ∃ r : Int, Ctr Try.prog 97 [.sc (.int .u64 (k : Int))] (iv r) [] := by
  obtain ⟨r, hr⟩ := c_Len64 k hk
  refine ⟨r, ?_⟩
  refine spec_of_body mixed Try.func97 rfl (by kernel_rfl) (by kernel_rfl) ?_; conv => whnf
  ((try ((refine Exists.intro none ?_); (conv => whnf))); first | ((with_reducible refine call_by (hr) ?_); conv => whnf))
  exact exit_plain rfl rfl
theorem c_SortFunc (l : List Pl) (hl : l.length ≤ 12) :
    CtrE Try.prog 56 [.ow 1000000 0 (l.map Pl.enc).length, .cl 57 []] [] [(1000000, some (false, 4, l.map Pl.enc))] (.tu []) [] [(1000000, some (false, 4, (sortA l).map Pl.enc))] := by
  obtain ⟨r, hr⟩ := c_Len l.length (by omega)
  have kp := c_pdq l hl r
  have eL : IntKind.u64.wrap (((l.map Pl.enc).length : Nat) : Int) = (l.length : Int) := by
    rw [List.length_map]
    simp [IntKind.wrap, IntKind.signed, IntKind.bits]
    omega
  rw [show ((l.length : Nat) : Int) = (((l.map Pl.enc).length : Nat) : Int) by rw [List.length_map]] at kp
  refine spec_of_bodyE mixed Try.func56 rfl (by kernel_rfl) (by kernel_rfl) ?_; conv => whnf
  rw [eL]
  ((try ((refine Exists.intro none ?_); (conv => whnf))); first | ((with_reducible refine call_by (hr) ?_); conv => whnf))
  ((refine Exists.intro (some ([], [(1000000, 1000000)], [])) ?_); (conv => whnf); first | ((with_reducible refine callE_by (kp) ?_); conv => whnf))
  (refine ExitE.mk ⟨[(1000000, 1000000)], [], ?_⟩; (conv => whnf); (refine And.intro (And.intro (by with_unfolding_all rfl) (by intro q h; cases h)) ?_; refine And.intro ?_ (And.intro ?_ ?_) <;> (conv => whnf) <;> (repeat' (first | exact True.intro | (with_reducible exact rfl) | exact (rfl : List.replicate 0 PV.bad = []) | ((with_reducible refine And.intro ?_ ?_) <;> (first | (with_reducible exact wkV_same _ rfl) | exact wkV_pt rfl rfl | exact wkV_ow rfl rfl rfl | (refine wkV_ow rfl rfl ?_) | (refine wkV_sc (congrArg (Value.int .i64) ?_)) | (refine wkV_sc (congrArg Value.bool ?_)) | exact wkV_ls rfl | ((refine wkV_cl ?_); conv => whnf) | ((refine wkV_tu ?_); conv => whnf) | ((refine wkV_ag ?_); conv => whnf) | (conv => whnf)))))))
  all_goals first | rfl | trace_state
end Go.Proofs
