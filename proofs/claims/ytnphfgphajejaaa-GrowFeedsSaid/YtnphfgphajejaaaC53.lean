/- Contracts of functions: what spoils bytes, and a hard state. -/
import Derived.Test.YtnphfgphajejaaaC52
set_option linter.unusedSimpArgs false
set_option linter.unusedVariables false
namespace Go.Proofs
open Go.Pv
set_option maxRecDepth 100000

def spoilB (b : Int) : Int := IntKind.u8.wrap (b + 101)
theorem c_SpoilBytes (l : List Int) (hl : l.length ≤ 4294967296) :
    CtrE Try.prog 220 [.ow 1000000 0 (l.map encB).length] [] [(1000000, some (false, 1, l.map encB))] (.tu []) [] [(1000000, some (false, 1, (l.map spoilB).map encB))] := by
  refine spec_of_bodyE mixed Try.func220 rfl (by kernel_rfl) (by kernel_rfl) ?_; conv => whnf
  refine tri_forO mixed (by kernel_rfl) (fun i : Nat => i ≤ l.length) (fun i => [(2, iv i)]) (fun _ => []) (fun i => [(1000000, some (false, 1, (upTo spoilB l i).map encB))]) [(1000000, 1000000)] (fun i => l.length - i) 0 (Nat.zero_le _) ?_ ?_
  · conv => whnf
    (refine And.intro (And.intro (by with_unfolding_all rfl) (by intro q h; cases h)) ?_; refine And.intro ?_ (And.intro ?_ ?_) <;> (conv => whnf) <;> (repeat' (first | exact True.intro | (with_reducible exact rfl) | exact (rfl : List.replicate 0 PV.bad = []) | ((with_reducible refine And.intro ?_ ?_) <;> (first | (with_reducible exact wkV_same _ rfl) | exact wkV_pt rfl rfl | exact wkV_ow rfl rfl rfl | (refine wkV_ow rfl rfl ?_) | (refine wkV_sc (congrArg (Value.int .i64) ?_)) | (refine wkV_sc (congrArg Value.bool ?_)) | exact wkV_ls rfl | ((refine wkV_cl ?_); conv => whnf) | ((refine wkV_tu ?_); conv => whnf) | ((refine wkV_ag ?_); conv => whnf) | (conv => whnf))))))
    all_goals rfl
  intro i hi
  conv => whnf
  ((first | (with_reducible refine split_dec (fun h => ?_) (fun h => ?_)) | (with_reducible refine split_beq (fun h => ?_) (fun h => ?_)) | (with_reducible refine split_bne (fun h => ?_) (fun h => ?_)) | (with_reducible refine split_not (fun h => ?_) (fun h => ?_)) | (with_reducible refine split_beqS (fun h => ?_) (fun h => ?_)) | (with_reducible refine split_intro (fun h => ?_) (fun h => ?_))) <;> conv => whnf)
  · simp only [List.length_map] at h
    have hlt : i < l.length := by omega
    have hrow : ((upTo spoilB l i).map encB)[0 + ((i : Nat) : Int).toNat]? = some (encB (l[i]'hlt)) := by
      rw [Nat.zero_add]; exact upTo_at spoilB encB l hlt
    refine ⟨⟨by omega, by (try simp only [List.length_map]); omega⟩, ?_⟩
    conv => whnf
    refine ⟨_, hrow, ?_⟩
    conv => whnf
    refine ⟨⟨by omega, by (try simp only [List.length_map]); omega⟩, ?_⟩
    conv => whnf
    refine ⟨_, hrow, ?_⟩
    conv => whnf
    refine ⟨i + 1, [(1000000, 1000000)], ⟨by omega, by omega⟩, ?_⟩
    conv => whnf
    (refine And.intro (And.intro (by with_unfolding_all rfl) (by intro q h; cases h)) ?_; refine And.intro ?_ (And.intro ?_ ?_) <;> (conv => whnf) <;> (repeat' (first | exact True.intro | (with_reducible exact rfl) | exact (rfl : List.replicate 0 PV.bad = []) | ((with_reducible refine And.intro ?_ ?_) <;> (first | (with_reducible exact wkV_same _ rfl) | exact wkV_pt rfl rfl | exact wkV_ow rfl rfl rfl | (refine wkV_ow rfl rfl ?_) | (refine wkV_sc (congrArg (Value.int .i64) ?_)) | (refine wkV_sc (congrArg Value.bool ?_)) | exact wkV_ls rfl | ((refine wkV_cl ?_); conv => whnf) | ((refine wkV_tu ?_); conv => whnf) | ((refine wkV_ag ?_); conv => whnf) | (conv => whnf))))))
    all_goals first
      | (rw [upTo_succ spoilB l hlt, List.map_set, Nat.zero_add, Int.toNat_natCast]; rfl)
      | exact w1 (by omega)
  · simp only [List.length_map] at h
    have : i = l.length := by omega
    subst this
    rw [upTo_all]
    (refine ExitE.mk ⟨[(1000000, 1000000)], [], ?_⟩; (conv => whnf); (refine And.intro (And.intro (by with_unfolding_all rfl) (by intro q h; cases h)) ?_; refine And.intro ?_ (And.intro ?_ ?_) <;> (conv => whnf) <;> (repeat' (first | exact True.intro | (with_reducible exact rfl) | exact (rfl : List.replicate 0 PV.bad = []) | ((with_reducible refine And.intro ?_ ?_) <;> (first | (with_reducible exact wkV_same _ rfl) | exact wkV_pt rfl rfl | exact wkV_ow rfl rfl rfl | (refine wkV_ow rfl rfl ?_) | (refine wkV_sc (congrArg (Value.int .i64) ?_)) | (refine wkV_sc (congrArg Value.bool ?_)) | exact wkV_ls rfl | ((refine wkV_cl ?_); conv => whnf) | ((refine wkV_tu ?_); conv => whnf) | ((refine wkV_ag ?_); conv => whnf) | (conv => whnf)))))))
    all_goals first | rfl | skip

set_option maxHeartbeats 1000000 in
theorem c_SpoilHard (a : Hrd) (h1 : a.snap.length ≤ 4294967296) (h2 : a.log.length ≤ 4294967) :
    CtrE Try.prog 152 [.ag (a.own 1000000)] [] [(1000000, some (false, 1, a.snap.map encB)), (1000001, some (false, 16, a.log.map Ent.enc))] (.tu []) [] [(1000000, some (false, 1, (a.snap.map spoilB).map encB)), (1000001, some (false, 16, (a.log.map spoilEn).map Ent.enc))] := by
  refine spec_of_bodyE mixed Try.func152 rfl (by kernel_rfl) (by kernel_rfl) ?_; conv => whnf
  ((refine Exists.intro (some ([], [(1000000, 1000000)], [])) ?_); (conv => whnf); first | ((with_reducible refine callE_by (c_SpoilBytes a.snap h1) ?_); conv => whnf))
  ((refine Exists.intro (some ([], [(1000000, 1000001)], [])) ?_); (conv => whnf); first | ((with_reducible refine callE_by (c_SpoilEntries a.log h2) ?_); conv => whnf))
  (refine ExitE.mk ⟨[(1000000, 1000000), (1000001, 1000001)], [], ?_⟩; (conv => whnf); (refine And.intro (And.intro (by with_unfolding_all rfl) (by intro q h; cases h)) ?_; refine And.intro ?_ (And.intro ?_ ?_) <;> (conv => whnf) <;> (repeat' (first | exact True.intro | (with_reducible exact rfl) | exact (rfl : List.replicate 0 PV.bad = []) | ((with_reducible refine And.intro ?_ ?_) <;> (first | (with_reducible exact wkV_same _ rfl) | exact wkV_pt rfl rfl | exact wkV_ow rfl rfl rfl | (refine wkV_ow rfl rfl ?_) | (refine wkV_sc (congrArg (Value.int .i64) ?_)) | (refine wkV_sc (congrArg Value.bool ?_)) | exact wkV_ls rfl | ((refine wkV_cl ?_); conv => whnf) | ((refine wkV_tu ?_); conv => whnf) | ((refine wkV_ag ?_); conv => whnf) | (conv => whnf)))))))
  all_goals first | rfl | skip
theorem c_SpoilBytes0 : Ctr Try.prog 220 [.nl] (.tu []) [] := by
  refine spec_of_body mixed Try.func220 rfl (by kernel_rfl) (by kernel_rfl) ?_; conv => whnf
  refine tri_for0 mixed (by kernel_rfl) (fun i : Nat => i = 0) (fun i => [(2, iv i)]) [] (fun _ => 0) 0 rfl ?_ ?_
  · conv => whnf
    (refine And.intro (And.intro (by with_unfolding_all rfl) (by intro q h; cases h)) ?_; refine And.intro ?_ (And.intro ?_ ?_) <;> (conv => whnf) <;> (repeat' (first | exact True.intro | (with_reducible exact rfl) | exact (rfl : List.replicate 0 PV.bad = []) | ((with_reducible refine And.intro ?_ ?_) <;> (first | (with_reducible exact wkV_same _ rfl) | exact wkV_pt rfl rfl | exact wkV_ow rfl rfl rfl | (refine wkV_ow rfl rfl ?_) | (refine wkV_sc (congrArg (Value.int .i64) ?_)) | (refine wkV_sc (congrArg Value.bool ?_)) | exact wkV_ls rfl | ((refine wkV_cl ?_); conv => whnf) | ((refine wkV_tu ?_); conv => whnf) | ((refine wkV_ag ?_); conv => whnf) | (conv => whnf))))))
    all_goals rfl
  intro i hi
  conv => whnf
  exact exit_plain rfl rfl
theorem c_SpoilEntries0 : Ctr Try.prog 134 [.nl] (.tu []) [] := by
  refine spec_of_body mixed Try.func134 rfl (by kernel_rfl) (by kernel_rfl) ?_; conv => whnf
  refine tri_for0 mixed (by kernel_rfl) (fun i : Nat => i = 0) (fun i => [(2, iv i)]) [] (fun _ => 0) 0 rfl ?_ ?_
  · conv => whnf
    (refine And.intro (And.intro (by with_unfolding_all rfl) (by intro q h; cases h)) ?_; refine And.intro ?_ (And.intro ?_ ?_) <;> (conv => whnf) <;> (repeat' (first | exact True.intro | (with_reducible exact rfl) | exact (rfl : List.replicate 0 PV.bad = []) | ((with_reducible refine And.intro ?_ ?_) <;> (first | (with_reducible exact wkV_same _ rfl) | exact wkV_pt rfl rfl | exact wkV_ow rfl rfl rfl | (refine wkV_ow rfl rfl ?_) | (refine wkV_sc (congrArg (Value.int .i64) ?_)) | (refine wkV_sc (congrArg Value.bool ?_)) | exact wkV_ls rfl | ((refine wkV_cl ?_); conv => whnf) | ((refine wkV_tu ?_); conv => whnf) | ((refine wkV_ag ?_); conv => whnf) | (conv => whnf))))))
    all_goals rfl
  intro i hi
  conv => whnf
  exact exit_plain rfl rfl
theorem c_SpoilNone : Ctr Try.prog 152 [.ag hzv] (.tu []) [] := by
  refine spec_of_body mixed Try.func152 rfl (by kernel_rfl) (by kernel_rfl) ?_; conv => whnf
  ((try ((refine Exists.intro none ?_); (conv => whnf))); first | ((with_reducible refine call_by (c_SpoilBytes0) ?_); conv => whnf))
  ((try ((refine Exists.intro none ?_); (conv => whnf))); first | ((with_reducible refine call_by (c_SpoilEntries0) ?_); conv => whnf))
  exact exit_plain rfl rfl
theorem c_SpoilSnap (a : Hrd) (h1 : a.snap.length ≤ 4294967296) :
    CtrE Try.prog 152 [.ag (a.own0 1000000)] [] [(1000000, some (false, 1, a.snap.map encB))] (.tu []) [] [(1000000, some (false, 1, (a.snap.map spoilB).map encB))] := by
  refine spec_of_bodyE mixed Try.func152 rfl (by kernel_rfl) (by kernel_rfl) ?_; conv => whnf
  ((refine Exists.intro (some ([], [(1000000, 1000000)], [])) ?_); (conv => whnf); first | ((with_reducible refine callE_by (c_SpoilBytes a.snap h1) ?_); conv => whnf))
  ((try ((refine Exists.intro none ?_); (conv => whnf))); first | ((with_reducible refine call_by (c_SpoilEntries0) ?_); conv => whnf))
  (refine ExitE.mk ⟨[(1000000, 1000000)], [], ?_⟩; (conv => whnf); (refine And.intro (And.intro (by with_unfolding_all rfl) (by intro q h; cases h)) ?_; refine And.intro ?_ (And.intro ?_ ?_) <;> (conv => whnf) <;> (repeat' (first | exact True.intro | (with_reducible exact rfl) | exact (rfl : List.replicate 0 PV.bad = []) | ((with_reducible refine And.intro ?_ ?_) <;> (first | (with_reducible exact wkV_same _ rfl) | exact wkV_pt rfl rfl | exact wkV_ow rfl rfl rfl | (refine wkV_ow rfl rfl ?_) | (refine wkV_sc (congrArg (Value.int .i64) ?_)) | (refine wkV_sc (congrArg Value.bool ?_)) | exact wkV_ls rfl | ((refine wkV_cl ?_); conv => whnf) | ((refine wkV_tu ?_); conv => whnf) | ((refine wkV_ag ?_); conv => whnf) | (conv => whnf)))))))
  all_goals first | rfl | skip
end Go.Proofs
