/- Contracts of functions: grow.Feed. -/
import Derived.Test.YtbhfokahocgndaaGreatC59
set_option linter.unusedSimpArgs false
set_option linter.unusedVariables false
namespace Go.Proofs
open Go.Pv
set_option maxRecDepth 100000

abbrev feedS (g : Hrd) : List PV := [iv 7, iv 0, iv 0, iv 0, iv g.base, iv g.baseTerm, iv 0, iv 0, bv false, .nl, iv g.baseConf.full, iv g.baseConf.wit, iv g.baseConf.learn, iv g.baseConf.lwit, .sl 1 (g.snap.map encB), .nl]
abbrev feedA (g : Hrd) (next : Int) : List PV := [iv 5, iv 0, iv 0, iv 0, iv (feedP g next), iv (termAt g (feedP g next)), iv 0, iv 0, bv false, .sl 16 ((feedL g next).map Ent.enc), iv 0, iv 0, iv 0, iv 0, .nl, .nl]

theorem c_FeedS (g : Hrd) (h1 : g.snap.length ≤ 4294967296) (next : Int) (hn : next ≤ g.base) : Ctr Tryz.prog 151 [.ag g.enc, iv next] (.ag (feedS g)) [] := by
  have h' : (g.snap.map encB).length ≤ 4294967296 := by simpa using h1
  refine spec_of_body mixed Tryz.func151 rfl (by kernel_rfl) (by kernel_rfl) ?_; conv => whnf
  ((first | (with_reducible refine split_dec (fun h => ?_) (fun h => ?_)) | (with_reducible refine split_beq (fun h => ?_) (fun h => ?_)) | (with_reducible refine split_bne (fun h => ?_) (fun h => ?_)) | (with_reducible refine split_not (fun h => ?_) (fun h => ?_)) | (with_reducible refine split_beqS (fun h => ?_) (fun h => ?_)) | (with_reducible refine split_intro (fun h => ?_) (fun h => ?_))) <;> conv => whnf)
  · refine ⟨rfl, ?_⟩
    conv => whnf
    refine ⟨⟨⟨small h' (by kernel_rfl), smallM h'⟩, rfl⟩, ?_⟩
    conv => whnf
    refine exit_fz [(336, false, 1, g.snap.map encB)] ?_ (wkV_ag ?_)
    · intro q hq
      rw [List.mem_singleton.1 hq]
      rfl
    conv => whnf
    repeat' (first | exact rfl | ((with_reducible refine And.intro ?_ ?_) <;> (first | (with_reducible exact wkV_same _ rfl) | exact wkV_fz (b := false) (List.Mem.head _) rfl | (conv => whnf))))
  · exfalso; omega
theorem c_FeedA (g : Hrd) (h1 : g.snap.length ≤ 4294967296) (h2 : g.log.length ≤ 4294967) (hb : isI g.base) (next : Int) (hn : g.base < next) (hnI : isI next) (h0 : 0 ≤ g.base ∧ g.base ≤ 1099511627776) : Ctr Tryz.prog 151 [.ag g.enc, iv next] (.ag (feedA g next)) [] := by
  have hm : g.log.length ≤ maxLen := smallM (by omega)
  have hla : lastI g = g.base + g.log.length := lastI_sum h0.1 (by omega)
  have hp : feedP g next = min (next - 1) (lastI g) := emin_eq _ _
  unfold isI at hnI
  have ew : IntKind.i64.wrap (next - 1) = next - 1 := wrap_id (by omega) (by omega)
  have ew2 : IntKind.i64.wrap (feedP g next + 1) = feedP g next + 1 := wrap_id (by omega) (by omega)
  have c1 := c_Term g hm hb (feedP g next) (by unfold isI; omega)
  have c2 := c_lFromV g (by omega) hb (feedP g next + 1) (by unfold isI; omega) 8
  refine spec_of_body mixed Tryz.func151 rfl (by kernel_rfl) (by kernel_rfl) ?_; conv => whnf
  ((first | (with_reducible refine split_dec (fun h => ?_) (fun h => ?_)) | (with_reducible refine split_beq (fun h => ?_) (fun h => ?_)) | (with_reducible refine split_bne (fun h => ?_) (fun h => ?_)) | (with_reducible refine split_not (fun h => ?_) (fun h => ?_)) | (with_reducible refine split_beqS (fun h => ?_) (fun h => ?_)) | (with_reducible refine split_intro (fun h => ?_) (fun h => ?_))) <;> conv => whnf)
  · exfalso; omega
  · ((try ((refine Exists.intro none ?_); (conv => whnf))); first | ((with_reducible refine call_by (c_Last g hm) ?_); conv => whnf))
    rw [ew, show (if lastI g < next - 1 then lastI g else next - 1) = feedP g next from rfl]
    ((try ((refine Exists.intro none ?_); (conv => whnf))); first | ((with_reducible refine call_by (c1) ?_); conv => whnf))
    rw [ew2]
    ((try ((refine Exists.intro none ?_); (conv => whnf))); first | ((with_reducible refine call_by (c2) ?_); conv => whnf))
    (refine Exists.intro _ (And.intro rfl (And.intro (by intro q _; simp only [List.length_nil]; omega) (And.intro (by intro i hi; exact absurd hi (Nat.not_lt_zero i)) ?_))); conv => whnf)
    exact exit_plain rfl rfl
end Go.Proofs
