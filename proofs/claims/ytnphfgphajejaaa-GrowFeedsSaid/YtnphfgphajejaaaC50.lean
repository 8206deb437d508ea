/- Contracts of functions: what spoils; a twin as a value. -/
import Derived.Test.YtnphfgphajejaaaC49
set_option linter.unusedSimpArgs false
set_option linter.unusedVariables false
namespace Go.Proofs
open Go.Pv
set_option maxRecDepth 100000

theorem c_TwinHardV (a : Hrd) (h1 : a.snap.length ≤ 4294967296) (h2 : a.log.length ≤ 4294967296) : Ctr Try.prog 91 [.ag a.enc] (.ag a.enc) [] := by
  refine (c_TwinHard a h1 h2).frz (wkV_ag ?_)
  conv => whnf
  repeat' (first | exact rfl | ((with_reducible refine And.intro ?_ ?_) <;> (first | (with_reducible exact wkV_same _ rfl) | exact wkV_fz (b := false) (List.Mem.head _) rfl | exact wkV_fz (b := false) (List.Mem.tail _ (List.Mem.head _)) rfl | (conv => whnf))))

def spoilEn (x : Ent) : Ent := { x with term := -77 }
theorem upTo_all {α : Type} (f : α → α) (l : List α) : upTo f l l.length = l.map f := by unfold upTo; simp
theorem c_SpoilEntries (l : List Ent) (hl : l.length ≤ 4294967) :
    CtrE Try.prog 134 [.ow 1000000 0 (l.map Ent.enc).length] [] [(1000000, some (false, 16, l.map Ent.enc))] (.tu []) [] [(1000000, some (false, 16, (l.map spoilEn).map Ent.enc))] := by
  refine spec_of_bodyE mixed Try.func134 rfl (by kernel_rfl) (by kernel_rfl) ?_; conv => whnf
  refine tri_forO mixed (by kernel_rfl) (fun i : Nat => i ≤ l.length) (fun i => [(2, iv i)]) (fun _ => []) (fun i => [(1000000, some (false, 16, (upTo spoilEn l i).map Ent.enc))]) [(1000000, 1000000)] (fun i => l.length - i) 0 (Nat.zero_le _) ?_ ?_
  · conv => whnf
    (refine And.intro (And.intro (by with_unfolding_all rfl) (by intro q h; cases h)) ?_; refine And.intro ?_ (And.intro ?_ ?_) <;> (conv => whnf) <;> (repeat' (first | exact True.intro | (with_reducible exact rfl) | exact (rfl : List.replicate 0 PV.bad = []) | ((with_reducible refine And.intro ?_ ?_) <;> (first | (with_reducible exact wkV_same _ rfl) | exact wkV_pt rfl rfl | exact wkV_ow rfl rfl rfl | (refine wkV_ow rfl rfl ?_) | (refine wkV_sc (congrArg (Value.int .i64) ?_)) | (refine wkV_sc (congrArg Value.bool ?_)) | exact wkV_ls rfl | ((refine wkV_cl ?_); conv => whnf) | ((refine wkV_tu ?_); conv => whnf) | ((refine wkV_ag ?_); conv => whnf) | (conv => whnf))))))
    all_goals rfl
  intro i hi
  conv => whnf
  ((first | (with_reducible refine split_dec (fun h => ?_) (fun h => ?_)) | (with_reducible refine split_beq (fun h => ?_) (fun h => ?_)) | (with_reducible refine split_bne (fun h => ?_) (fun h => ?_)) | (with_reducible refine split_not (fun h => ?_) (fun h => ?_)) | (with_reducible refine split_beqS (fun h => ?_) (fun h => ?_)) | (with_reducible refine split_intro (fun h => ?_) (fun h => ?_))) <;> conv => whnf)
  · simp only [List.length_map] at h
    have hlt : i < l.length := by omega
    have hrow : ((upTo spoilEn l i).map Ent.enc)[0 + ((i : Nat) : Int).toNat]? = some ((l[i]'hlt).enc) := by
      rw [Nat.zero_add]; exact upTo_at spoilEn Ent.enc l hlt
    refine ⟨⟨by omega, by (try simp only [List.length_map]); omega⟩, ?_⟩
    conv => whnf
    refine ⟨_, hrow, ?_⟩
    conv => whnf
    refine ⟨i + 1, [(1000000, 1000000)], ⟨by omega, by omega⟩, ?_⟩
    conv => whnf
    (refine And.intro (And.intro (by with_unfolding_all rfl) (by intro q h; cases h)) ?_; refine And.intro ?_ (And.intro ?_ ?_) <;> (conv => whnf) <;> (repeat' (first | exact True.intro | (with_reducible exact rfl) | exact (rfl : List.replicate 0 PV.bad = []) | ((with_reducible refine And.intro ?_ ?_) <;> (first | (with_reducible exact wkV_same _ rfl) | exact wkV_pt rfl rfl | exact wkV_ow rfl rfl rfl | (refine wkV_ow rfl rfl ?_) | (refine wkV_sc (congrArg (Value.int .i64) ?_)) | (refine wkV_sc (congrArg Value.bool ?_)) | exact wkV_ls rfl | ((refine wkV_cl ?_); conv => whnf) | ((refine wkV_tu ?_); conv => whnf) | ((refine wkV_ag ?_); conv => whnf) | (conv => whnf))))))
    all_goals first
      | (rw [upTo_succ spoilEn l hlt, List.map_set, Nat.zero_add, Int.toNat_natCast]; rfl)
      | exact w1 (by omega)
  · simp only [List.length_map] at h
    have : i = l.length := by omega
    subst this
    rw [upTo_all]
    (refine ExitE.mk ⟨[(1000000, 1000000)], [], ?_⟩; (conv => whnf); (refine And.intro (And.intro (by with_unfolding_all rfl) (by intro q h; cases h)) ?_; refine And.intro ?_ (And.intro ?_ ?_) <;> (conv => whnf) <;> (repeat' (first | exact True.intro | (with_reducible exact rfl) | exact (rfl : List.replicate 0 PV.bad = []) | ((with_reducible refine And.intro ?_ ?_) <;> (first | (with_reducible exact wkV_same _ rfl) | exact wkV_pt rfl rfl | exact wkV_ow rfl rfl rfl | (refine wkV_ow rfl rfl ?_) | (refine wkV_sc (congrArg (Value.int .i64) ?_)) | (refine wkV_sc (congrArg Value.bool ?_)) | exact wkV_ls rfl | ((refine wkV_cl ?_); conv => whnf) | ((refine wkV_tu ?_); conv => whnf) | ((refine wkV_ag ?_); conv => whnf) | (conv => whnf)))))))
    all_goals first | rfl | skip
end Go.Proofs
