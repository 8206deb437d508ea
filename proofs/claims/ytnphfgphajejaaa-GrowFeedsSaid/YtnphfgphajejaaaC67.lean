/- Contracts of functions: what is fed is new memory. -/
import Derived.Test.YtnphfgphajejaaaC60
set_option linter.unusedSimpArgs false
set_option linter.unusedVariables false
namespace Go.Proofs
open Go.Pv
set_option maxRecDepth 100000

abbrev feedSo (g : Hrd) (kd : Int) (k : Nat) : List PV := [iv kd, iv 0, iv 0, iv 0, iv g.base, iv g.baseTerm, iv 0, iv 0, bv false, .nl, iv g.baseConf.full, iv g.baseConf.wit, iv g.baseConf.learn, iv g.baseConf.lwit, .ow k 0 (g.snap.map encB).length, .nl]
abbrev feedAo (g : Hrd) (next : Int) (kd : Int) (k : Nat) : List PV := [iv kd, iv 0, iv 0, iv 0, iv (feedP g next), iv (termAt g (feedP g next)), iv 0, iv 0, bv false, .ow k 0 ((feedL g next).map Ent.enc).length, iv 0, iv 0, iv 0, iv 0, .nl, .nl]

theorem c_FeedSo (g : Hrd) (h1 : g.snap.length ≤ 4294967296) (next : Int) (hn : next ≤ g.base) : Ctr Try.prog 163 [.ag g.enc, iv next] (.ag (feedSo g 7 0)) [(1, g.snap.map encB)] := by
  have h' : (g.snap.map encB).length ≤ 4294967296 := by simpa using h1
  refine spec_of_body mixed Try.func163 rfl (by kernel_rfl) (by kernel_rfl) ?_; conv => whnf
  ((first | (with_reducible refine split_dec (fun h => ?_) (fun h => ?_)) | (with_reducible refine split_beq (fun h => ?_) (fun h => ?_)) | (with_reducible refine split_bne (fun h => ?_) (fun h => ?_)) | (with_reducible refine split_not (fun h => ?_) (fun h => ?_)) | (with_reducible refine split_beqS (fun h => ?_) (fun h => ?_)) | (with_reducible refine split_intro (fun h => ?_) (fun h => ?_))) <;> conv => whnf)
  · refine ⟨rfl, ?_⟩
    conv => whnf
    refine ⟨⟨⟨small h' (by kernel_rfl), smallM h'⟩, rfl⟩, ?_⟩
    conv => whnf
    refine exit_own [(0, 336)] rfl ⟨rfl, True.intro⟩ (wkV_ag ?_)
    conv => whnf
    repeat' (first | exact rfl | ((with_reducible refine And.intro ?_ ?_) <;> (first | (with_reducible exact wkV_same _ rfl) | exact wkV_ow rfl rfl rfl | (conv => whnf))))
  · exfalso; omega
theorem c_FeedAo (g : Hrd) (h1 : g.snap.length ≤ 4294967296) (h2 : g.log.length ≤ 4294967) (hb : isI g.base) (next : Int) (hn : g.base < next) (hnI : isI next) (h0 : 0 ≤ g.base ∧ g.base ≤ 1099511627776) : Ctr Try.prog 163 [.ag g.enc, iv next] (.ag (feedAo g next 5 0)) [(16, (feedL g next).map Ent.enc)] := by
  have hm : g.log.length ≤ maxLen := smallM (by omega)
  have hla : lastI g = g.base + g.log.length := lastI_sum h0.1 (by omega)
  have hp : feedP g next = min (next - 1) (lastI g) := emin_eq _ _
  unfold isI at hnI
  have ew : IntKind.i64.wrap (next - 1) = next - 1 := wrap_id (by omega) (by omega)
  have ew2 : IntKind.i64.wrap (feedP g next + 1) = feedP g next + 1 := wrap_id (by omega) (by omega)
  have c1 := c_Term g hm hb (feedP g next) (by unfold isI; omega)
  have c2 := c_lFrom g (by omega) hb (feedP g next + 1) (by unfold isI; omega) 8
  refine spec_of_body mixed Try.func163 rfl (by kernel_rfl) (by kernel_rfl) ?_; conv => whnf
  ((first | (with_reducible refine split_dec (fun h => ?_) (fun h => ?_)) | (with_reducible refine split_beq (fun h => ?_) (fun h => ?_)) | (with_reducible refine split_bne (fun h => ?_) (fun h => ?_)) | (with_reducible refine split_not (fun h => ?_) (fun h => ?_)) | (with_reducible refine split_beqS (fun h => ?_) (fun h => ?_)) | (with_reducible refine split_intro (fun h => ?_) (fun h => ?_))) <;> conv => whnf)
  · exfalso; omega
  · ((try ((refine Exists.intro none ?_); (conv => whnf))); first | ((with_reducible refine call_by (c_Last g hm) ?_); conv => whnf))
    rw [ew, show (if lastI g < next - 1 then lastI g else next - 1) = feedP g next from rfl]
    ((try ((refine Exists.intro none ?_); (conv => whnf))); first | ((with_reducible refine call_by (c1) ?_); conv => whnf))
    rw [ew2]
    ((try ((refine Exists.intro none ?_); (conv => whnf))); first | ((with_reducible refine call_by (c2) ?_); conv => whnf))
    (refine Exists.intro _ (And.intro rfl (And.intro (by intro q hq; first | (cases hq; done) | (simp only [List.mem_cons, List.not_mem_nil, or_false] at hq; rcases hq with rfl | rfl <;> (simp only [List.length_cons, List.length_nil]; omega)) | (simp only [List.mem_cons, List.not_mem_nil, or_false] at hq; subst hq; simp only [List.length_cons, List.length_nil]; omega)) (And.intro (by intro i hi; simp only [List.length_cons, List.length_nil, Nat.lt_one_iff, Nat.zero_add] at hi; subst hi; rfl) ?_))); conv => whnf)
    refine exit_own [(0, 624)] rfl ⟨rfl, True.intro⟩ (wkV_ag ?_)
    conv => whnf
    repeat' (first | exact rfl | ((with_reducible refine And.intro ?_ ?_) <;> (first | (with_reducible exact wkV_same _ rfl) | exact wkV_ow rfl rfl rfl | (conv => whnf))))

theorem c_rFeedS (g : Hrd) (h1 : g.snap.length ≤ 4294967296) (next : Int) (hn : next ≤ g.base) : Ctr Try.prog 164 [.ag g.enc, iv next] (.ag (feedS g)) [] := by
  have t3 := (c_Twin g.snap h1).frz (wkV_fz (b := false) (List.Mem.head _) rfl)
  refine spec_of_body mixed Try.func164 rfl (by kernel_rfl) (by kernel_rfl) ?_; conv => whnf
  ((first | (with_reducible refine split_dec (fun h => ?_) (fun h => ?_)) | (with_reducible refine split_beq (fun h => ?_) (fun h => ?_)) | (with_reducible refine split_bne (fun h => ?_) (fun h => ?_)) | (with_reducible refine split_not (fun h => ?_) (fun h => ?_)) | (with_reducible refine split_beqS (fun h => ?_) (fun h => ?_)) | (with_reducible refine split_intro (fun h => ?_) (fun h => ?_))) <;> conv => whnf)
  · ((try ((refine Exists.intro none ?_); (conv => whnf))); first | ((with_reducible refine call_by (t3) ?_); conv => whnf))
    (refine Exists.intro _ (And.intro rfl (And.intro (by intro q _; simp only [List.length_nil]; omega) (And.intro (by intro i hi; exact absurd hi (Nat.not_lt_zero i)) ?_))); conv => whnf)
    exact exit_plain rfl rfl
  · exfalso; omega
theorem c_rFeedA (g : Hrd) (h2 : g.log.length ≤ 4294967) (hb : isI g.base) (next : Int) (hn : g.base < next) (hnI : isI next) (h0 : 0 ≤ g.base ∧ g.base ≤ 1099511627776) : Ctr Try.prog 164 [.ag g.enc, iv next] (.ag (feedA g next)) [] := by
  have hm : g.log.length ≤ maxLen := smallM (by omega)
  have hla : lastI g = g.base + g.log.length := lastI_sum h0.1 (by omega)
  have hp : feedP g next = min (next - 1) (lastI g) := emin_eq _ _
  unfold isI at hnI
  have ew : IntKind.i64.wrap (next - 1) = next - 1 := wrap_id (by omega) (by omega)
  have ew2 : IntKind.i64.wrap (feedP g next + 1) = feedP g next + 1 := wrap_id (by omega) (by omega)
  have c1 := c_rTerm g hm h0.1 (by omega) (feedP g next) (by unfold isI; omega)
  have c2 := (c_rFrom g (by omega) h0 (feedP g next + 1) (by unfold isI; omega) 8).frz (wkV_fz (b := false) (List.Mem.head _) rfl)
  refine spec_of_body mixed Try.func164 rfl (by kernel_rfl) (by kernel_rfl) ?_; conv => whnf
  ((first | (with_reducible refine split_dec (fun h => ?_) (fun h => ?_)) | (with_reducible refine split_beq (fun h => ?_) (fun h => ?_)) | (with_reducible refine split_bne (fun h => ?_) (fun h => ?_)) | (with_reducible refine split_not (fun h => ?_) (fun h => ?_)) | (with_reducible refine split_beqS (fun h => ?_) (fun h => ?_)) | (with_reducible refine split_intro (fun h => ?_) (fun h => ?_))) <;> conv => whnf)
  · exfalso; omega
  · ((try ((refine Exists.intro none ?_); (conv => whnf))); first | ((with_reducible refine call_by (c_rLast g hm) ?_); conv => whnf))
    rw [ew, show (if lastI g < next - 1 then lastI g else next - 1) = feedP g next from rfl]
    ((try ((refine Exists.intro none ?_); (conv => whnf))); first | ((with_reducible refine call_by (c1) ?_); conv => whnf))
    rw [ew2]
    ((try ((refine Exists.intro none ?_); (conv => whnf))); first | ((with_reducible refine call_by (c2) ?_); conv => whnf))
    (refine Exists.intro _ (And.intro rfl (And.intro (by intro q _; simp only [List.length_nil]; omega) (And.intro (by intro i hi; exact absurd hi (Nat.not_lt_zero i)) ?_))); conv => whnf)
    exact exit_plain rfl rfl

theorem s_feedS (g : Hrd) (h : g.snap.length ≤ maxLen) : Ctr Try.prog 151 [.ag (feedS g), .ag (feedS g)] (bv true) [] := by
  have := s_Msg ⟨7, 0, 0, 0, g.base, g.baseTerm, 0, 0, false, [], g.baseConf, g.snap, []⟩ [] (by simp) (fun _ => []) (by simp) h (by simp)
  refine this.deep ?_
  repeat' (first | exact subVL_nil | refine subVL_cons ?_ ?_ | exact SubV.refl _ | exact subV_nl | refine subV_ag ?_)
theorem s_feedA (g : Hrd) (next : Int) (h : (feedL g next).length ≤ maxLen) : Ctr Try.prog 151 [.ag (feedA g next), .ag (feedA g next)] (bv true) [] := by
  have := s_Msg ⟨5, 0, 0, 0, feedP g next, termAt g (feedP g next), 0, 0, false, feedL g next, ⟨0, 0, 0, 0⟩, [], []⟩ [] (by simp) (fun _ => []) (by simp) (by simp) h
  refine this.deep ?_
  repeat' (first | exact subVL_nil | refine subVL_cons ?_ ?_ | exact SubV.refl _ | exact subV_nl | refine subV_ag ?_)

theorem c_SpoilMsgS (g : Hrd) (h1 : g.snap.length ≤ 4294967296) :
    CtrE Try.prog 165 [.bs 1000000 1] [(1000000, feedSo g 7 1000000)] [(1000000, some (false, 1, g.snap.map encB))] (.tu []) [(1000000, feedSo g (-77) 1000000)] [(1000000, some (false, 1, (g.snap.map spoilB).map encB))] := by
  refine spec_of_bodyE mixed Try.func165 rfl (by kernel_rfl) (by kernel_rfl) ?_; conv => whnf
  refine tri_forO mixed (by kernel_rfl) (fun i : Nat => i ≤ 1) (fun i => [(2, iv i)]) (fun i => [(1000000, match i with | 0 => feedSo g 7 1000000 | _ + 1 => feedSo g (-77) 1000000)]) (fun i => [(1000000, match i with | 0 => some (false, 1, g.snap.map encB) | _ + 1 => some (false, 1, (g.snap.map spoilB).map encB))]) [(1000000, 1000000)] (fun i => 1 - i) 0 (Nat.zero_le _) ?_ ?_
  · conv => whnf
    (refine And.intro (And.intro (by with_unfolding_all rfl) (by intro q h; cases h)) ?_; refine And.intro ?_ (And.intro ?_ ?_) <;> (conv => whnf) <;> (repeat' (first | exact True.intro | (with_reducible exact rfl) | exact (rfl : List.replicate 0 PV.bad = []) | ((with_reducible refine And.intro ?_ ?_) <;> (first | (with_reducible exact wkV_same _ rfl) | exact wkV_pt rfl rfl | exact wkV_ow rfl rfl rfl | (refine wkV_ow rfl rfl ?_) | (refine wkV_sc (congrArg (Value.int .i64) ?_)) | (refine wkV_sc (congrArg Value.bool ?_)) | exact wkV_ls rfl | ((refine wkV_cl ?_); conv => whnf) | ((refine wkV_tu ?_); conv => whnf) | ((refine wkV_ag ?_); conv => whnf) | (conv => whnf))))))
    all_goals first | rfl | exact List.Mem.head _
  intro i hi
  rcases i with _ | i
  · conv => whnf
    refine ⟨⟨by omega, by omega⟩, ?_⟩
    conv => whnf
    refine ⟨⟨by omega, by omega⟩, ?_⟩
    conv => whnf
    ((try ((refine Exists.intro none ?_); (conv => whnf))); first | ((with_reducible refine call_by (c_SpoilEntries0) ?_); conv => whnf))
    refine ⟨⟨by omega, by omega⟩, ?_⟩
    conv => whnf
    ((refine Exists.intro (some ([], [(1000000, 1000000)], [])) ?_); (conv => whnf); first | ((with_reducible refine callE_by (c_SpoilBytes g.snap h1) ?_); conv => whnf))
    refine tri_for0 mixed (by kernel_rfl) (fun k : Nat => k = 0) (fun k => [(3, iv k)]) [(1000000, 1000000)] (fun _ => 0) 0 rfl ?_ ?_
    · conv => whnf
      (refine And.intro (And.intro (by with_unfolding_all rfl) (by intro q h; cases h)) ?_; refine And.intro ?_ (And.intro ?_ ?_) <;> (conv => whnf) <;> (repeat' (first | exact True.intro | (with_reducible exact rfl) | exact (rfl : List.replicate 0 PV.bad = []) | ((with_reducible refine And.intro ?_ ?_) <;> (first | (with_reducible exact wkV_same _ rfl) | exact wkV_pt rfl rfl | exact wkV_ow rfl rfl rfl | (refine wkV_ow rfl rfl ?_) | (refine wkV_sc (congrArg (Value.int .i64) ?_)) | (refine wkV_sc (congrArg Value.bool ?_)) | exact wkV_ls rfl | ((refine wkV_cl ?_); conv => whnf) | ((refine wkV_tu ?_); conv => whnf) | ((refine wkV_ag ?_); conv => whnf) | (conv => whnf))))))
      all_goals first | rfl | exact List.Mem.head _
    intro k hk
    subst hk
    conv => whnf
    refine ⟨⟨by omega, by omega⟩, ?_⟩
    conv => whnf
    refine ⟨1, [(1000000, 1000000)], ⟨by omega, by omega⟩, ?_⟩
    conv => whnf
    (refine And.intro (And.intro (by with_unfolding_all rfl) (by intro q h; cases h)) ?_; refine And.intro ?_ (And.intro ?_ ?_) <;> (conv => whnf) <;> (repeat' (first | exact True.intro | (with_reducible exact rfl) | exact (rfl : List.replicate 0 PV.bad = []) | ((with_reducible refine And.intro ?_ ?_) <;> (first | (with_reducible exact wkV_same _ rfl) | exact wkV_pt rfl rfl | exact wkV_ow rfl rfl rfl | (refine wkV_ow rfl rfl ?_) | (refine wkV_sc (congrArg (Value.int .i64) ?_)) | (refine wkV_sc (congrArg Value.bool ?_)) | exact wkV_ls rfl | ((refine wkV_cl ?_); conv => whnf) | ((refine wkV_tu ?_); conv => whnf) | ((refine wkV_ag ?_); conv => whnf) | (conv => whnf))))))
    all_goals first | rfl | exact List.Mem.head _ | trace_state
  · obtain rfl : i = 0 := by omega
    conv => whnf
    (refine ExitE.mk ⟨[(1000000, 1000000)], [], ?_⟩; (conv => whnf); (refine And.intro (And.intro (by with_unfolding_all rfl) (by intro q h; cases h)) ?_; refine And.intro ?_ (And.intro ?_ ?_) <;> (conv => whnf) <;> (repeat' (first | exact True.intro | (with_reducible exact rfl) | exact (rfl : List.replicate 0 PV.bad = []) | ((with_reducible refine And.intro ?_ ?_) <;> (first | (with_reducible exact wkV_same _ rfl) | exact wkV_pt rfl rfl | exact wkV_ow rfl rfl rfl | (refine wkV_ow rfl rfl ?_) | (refine wkV_sc (congrArg (Value.int .i64) ?_)) | (refine wkV_sc (congrArg Value.bool ?_)) | exact wkV_ls rfl | ((refine wkV_cl ?_); conv => whnf) | ((refine wkV_tu ?_); conv => whnf) | ((refine wkV_ag ?_); conv => whnf) | (conv => whnf)))))))
    all_goals first | rfl | exact List.Mem.head _ | trace_state
theorem c_SpoilMsgA (g : Hrd) (next : Int) (h1 : (feedL g next).length ≤ 4294967) :
    CtrE Try.prog 165 [.bs 1000000 1] [(1000000, feedAo g next 5 1000000)] [(1000000, some (false, 16, (feedL g next).map Ent.enc))] (.tu []) [(1000000, feedAo g next (-77) 1000000)] [(1000000, some (false, 16, ((feedL g next).map spoilEn).map Ent.enc))] := by
  refine spec_of_bodyE mixed Try.func165 rfl (by kernel_rfl) (by kernel_rfl) ?_; conv => whnf
  refine tri_forO mixed (by kernel_rfl) (fun i : Nat => i ≤ 1) (fun i => [(2, iv i)]) (fun i => [(1000000, match i with | 0 => feedAo g next 5 1000000 | _ + 1 => feedAo g next (-77) 1000000)]) (fun i => [(1000000, match i with | 0 => some (false, 16, (feedL g next).map Ent.enc) | _ + 1 => some (false, 16, ((feedL g next).map spoilEn).map Ent.enc))]) [(1000000, 1000000)] (fun i => 1 - i) 0 (Nat.zero_le _) ?_ ?_
  · conv => whnf
    (refine And.intro (And.intro (by with_unfolding_all rfl) (by intro q h; cases h)) ?_; refine And.intro ?_ (And.intro ?_ ?_) <;> (conv => whnf) <;> (repeat' (first | exact True.intro | (with_reducible exact rfl) | exact (rfl : List.replicate 0 PV.bad = []) | ((with_reducible refine And.intro ?_ ?_) <;> (first | (with_reducible exact wkV_same _ rfl) | exact wkV_pt rfl rfl | exact wkV_ow rfl rfl rfl | (refine wkV_ow rfl rfl ?_) | (refine wkV_sc (congrArg (Value.int .i64) ?_)) | (refine wkV_sc (congrArg Value.bool ?_)) | exact wkV_ls rfl | ((refine wkV_cl ?_); conv => whnf) | ((refine wkV_tu ?_); conv => whnf) | ((refine wkV_ag ?_); conv => whnf) | (conv => whnf))))))
    all_goals first | rfl | exact List.Mem.head _
  intro i hi
  rcases i with _ | i
  · conv => whnf
    refine ⟨⟨by omega, by omega⟩, ?_⟩
    conv => whnf
    refine ⟨⟨by omega, by omega⟩, ?_⟩
    conv => whnf
    ((refine Exists.intro (some ([], [(1000000, 1000000)], [])) ?_); (conv => whnf); first | ((with_reducible refine callE_by (c_SpoilEntries (feedL g next) h1) ?_); conv => whnf))
    refine ⟨⟨by omega, by omega⟩, ?_⟩
    conv => whnf
    ((try ((refine Exists.intro none ?_); (conv => whnf))); first | ((with_reducible refine call_by (c_SpoilBytes0) ?_); conv => whnf))
    refine tri_for0 mixed (by kernel_rfl) (fun k : Nat => k = 0) (fun k => [(3, iv k)]) [(1000000, 1000000)] (fun _ => 0) 0 rfl ?_ ?_
    · conv => whnf
      (refine And.intro (And.intro (by with_unfolding_all rfl) (by intro q h; cases h)) ?_; refine And.intro ?_ (And.intro ?_ ?_) <;> (conv => whnf) <;> (repeat' (first | exact True.intro | (with_reducible exact rfl) | exact (rfl : List.replicate 0 PV.bad = []) | ((with_reducible refine And.intro ?_ ?_) <;> (first | (with_reducible exact wkV_same _ rfl) | exact wkV_pt rfl rfl | exact wkV_ow rfl rfl rfl | (refine wkV_ow rfl rfl ?_) | (refine wkV_sc (congrArg (Value.int .i64) ?_)) | (refine wkV_sc (congrArg Value.bool ?_)) | exact wkV_ls rfl | ((refine wkV_cl ?_); conv => whnf) | ((refine wkV_tu ?_); conv => whnf) | ((refine wkV_ag ?_); conv => whnf) | (conv => whnf))))))
      all_goals first | rfl | exact List.Mem.head _
    intro k hk
    subst hk
    conv => whnf
    refine ⟨⟨by omega, by omega⟩, ?_⟩
    conv => whnf
    refine ⟨1, [(1000000, 1000000)], ⟨by omega, by omega⟩, ?_⟩
    conv => whnf
    (refine And.intro (And.intro (by with_unfolding_all rfl) (by intro q h; cases h)) ?_; refine And.intro ?_ (And.intro ?_ ?_) <;> (conv => whnf) <;> (repeat' (first | exact True.intro | (with_reducible exact rfl) | exact (rfl : List.replicate 0 PV.bad = []) | ((with_reducible refine And.intro ?_ ?_) <;> (first | (with_reducible exact wkV_same _ rfl) | exact wkV_pt rfl rfl | exact wkV_ow rfl rfl rfl | (refine wkV_ow rfl rfl ?_) | (refine wkV_sc (congrArg (Value.int .i64) ?_)) | (refine wkV_sc (congrArg Value.bool ?_)) | exact wkV_ls rfl | ((refine wkV_cl ?_); conv => whnf) | ((refine wkV_tu ?_); conv => whnf) | ((refine wkV_ag ?_); conv => whnf) | (conv => whnf))))))
    all_goals first | rfl | exact List.Mem.head _ | trace_state
  · obtain rfl : i = 0 := by omega
    conv => whnf
    (refine ExitE.mk ⟨[(1000000, 1000000)], [], ?_⟩; (conv => whnf); (refine And.intro (And.intro (by with_unfolding_all rfl) (by intro q h; cases h)) ?_; refine And.intro ?_ (And.intro ?_ ?_) <;> (conv => whnf) <;> (repeat' (first | exact True.intro | (with_reducible exact rfl) | exact (rfl : List.replicate 0 PV.bad = []) | ((with_reducible refine And.intro ?_ ?_) <;> (first | (with_reducible exact wkV_same _ rfl) | exact wkV_pt rfl rfl | exact wkV_ow rfl rfl rfl | (refine wkV_ow rfl rfl ?_) | (refine wkV_sc (congrArg (Value.int .i64) ?_)) | (refine wkV_sc (congrArg Value.bool ?_)) | exact wkV_ls rfl | ((refine wkV_cl ?_); conv => whnf) | ((refine wkV_tu ?_); conv => whnf) | ((refine wkV_ag ?_); conv => whnf) | (conv => whnf)))))))
    all_goals first | rfl | exact List.Mem.head _ | trace_state
end Go.Proofs
