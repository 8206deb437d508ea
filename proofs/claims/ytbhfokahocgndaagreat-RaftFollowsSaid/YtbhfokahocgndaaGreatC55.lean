/- Contracts of functions: grow.Take. -/
import Derived.Test.YtbhfokahocgndaaGreatC54
import Derived.Test.YtbhfokahocgndaaGreatC49
set_option linter.unusedSimpArgs false
set_option linter.unusedVariables false
namespace Go.Proofs
open Go.Pv
set_option maxRecDepth 100000

abbrev mzv : List PV := [iv 0, iv 0, iv 0, iv 0, iv 0, iv 0, iv 0, iv 0, bv false, .nl, iv 0, iv 0, iv 0, iv 0, .nl, .nl]
abbrev ansV (yes : Bool) (i : Int) : List PV := [iv 6, iv 0, iv 0, iv 0, iv i, iv 0, iv 0, iv 0, bv yes, .nl, iv 0, iv 0, iv 0, iv 0, .nl, .nl]
def resG (e : Int) (o : GOut) : PV := if e = 0 then .tu [.ag (o.h.own 0), iv o.c, .ag (ansV o.yes o.i), iv 0] else .tu [.ag hzv, iv 0, .ag mzv, iv e]
def resGO (e : Int) (o : GOut) : List (Nat × List (List PV)) := if e = 0 then o.h.obs else []
def resGW (e : Int) (o : GOut) : PV := if e = 0 then .tu [.ag o.h.enc, iv o.c, .ag (ansV o.yes o.i), iv 0] else .tu [.ag hzv, iv 0, .ag mzv, iv e]
theorem ctr_resG {f : Nat} {ps : List PV} {e : Int} {o : GOut} (h : Ctr Tryz.prog f ps (resG e o) (resGO e o)) : Ctr Tryz.prog f ps (resGW e o) [] := by
  unfold resG resGO at h
  unfold resGW
  by_cases he : e = 0
  · rw [if_pos he, if_pos he] at h
    rw [if_pos he]
    refine h.frz (wkV_tu ?_)
    refine ⟨wkV_ag ?_, wkV_same _ rfl, wkV_same _ rfl, wkV_same _ rfl, rfl⟩
    conv => whnf
    repeat' (first | exact rfl | ((with_reducible refine And.intro ?_ ?_) <;> (first | (with_reducible exact wkV_same _ rfl) | exact wkV_fz (b := false) (List.Mem.head _) rfl | exact wkV_fz (b := false) (List.Mem.tail _ (List.Mem.head _)) rfl | (conv => whnf))))
  · rw [if_neg he, if_neg he] at h
    rw [if_neg he]
    exact h
theorem resG_ok {e : Int} {o : GOut} (he : e = 0) : resG e o = .tu [.ag (o.h.own 0), iv o.c, .ag (ansV o.yes o.i), iv 0] ∧ resGO e o = o.h.obs ∧ resGW e o = .tu [.ag o.h.enc, iv o.c, .ag (ansV o.yes o.i), iv 0] := by
  subst he; exact ⟨rfl, rfl, rfl⟩
theorem resG_no {e : Int} {o : GOut} (he : ¬ e = 0) : resG e o = .tu [.ag hzv, iv 0, .ag mzv, iv e] ∧ resGO e o = [] ∧ resGW e o = .tu [.ag hzv, iv 0, .ag mzv, iv e] := by
  unfold resG resGO resGW
  rw [if_neg he, if_neg he, if_neg he]; exact ⟨rfl, rfl, rfl⟩

theorem c_gRight (a : Hrd) (hm : a.log.length ≤ maxLen) (c : Int) (m : Mg) : Ctr Tryz.prog 160 [.ag a.enc, iv c, .ag m.enc] (bv (decide (gRight a c m))) [] := by
  by_cases hg : gRight a c m
  · rw [decide_eq_true hg]
    obtain ⟨⟨g1, g2⟩, ⟨g3, g4⟩, g5, g6, g7⟩ := hg
    refine spec_of_body mixed Tryz.func160 rfl (by kernel_rfl) (by kernel_rfl) ?_; conv => whnf
    ((try ((refine Exists.intro none ?_); (conv => whnf))); first | ((with_reducible refine call_by (c_Last a hm) ?_); conv => whnf))
    repeat' (first | (exfalso; (try simp only [List.length_map] at *); omega) | exact exit_plain rfl rfl | exact exit_plain rfl (congrArg bv (decide_eq_true (by (try simp only [List.length_map]); omega))) | ((first | (with_reducible refine split_dec (fun h => ?_) (fun h => ?_)) | (with_reducible refine split_beq (fun h => ?_) (fun h => ?_)) | (with_reducible refine split_bne (fun h => ?_) (fun h => ?_)) | (with_reducible refine split_not (fun h => ?_) (fun h => ?_)) | (with_reducible refine split_beqS (fun h => ?_) (fun h => ?_)) | (with_reducible refine split_intro (fun h => ?_) (fun h => ?_))) <;> conv => whnf))
  · rw [decide_eq_false hg]
    refine spec_of_body mixed Tryz.func160 rfl (by kernel_rfl) (by kernel_rfl) ?_; conv => whnf
    ((try ((refine Exists.intro none ?_); (conv => whnf))); first | ((with_reducible refine call_by (c_Last a hm) ?_); conv => whnf))
    repeat' (first | exact exit_plain rfl rfl | exact exit_plain rfl (congrArg bv (decide_eq_false (fun hh => hg (by (try simp only [List.length_map] at *); unfold gRight; omega)))) | ((first | (with_reducible refine split_dec (fun h => ?_) (fun h => ?_)) | (with_reducible refine split_beq (fun h => ?_) (fun h => ?_)) | (with_reducible refine split_bne (fun h => ?_) (fun h => ?_)) | (with_reducible refine split_not (fun h => ?_) (fun h => ?_)) | (with_reducible refine split_beqS (fun h => ?_) (fun h => ?_)) | (with_reducible refine split_intro (fun h => ?_) (fun h => ?_))) <;> conv => whnf))

set_option maxHeartbeats 1000000 in
theorem c_breaks (a : Hrd) (hm : a.log.length ≤ maxLen) (hb : isI a.base) (c p : Int) (hp : 0 ≤ p ∧ p ≤ 4611686018427387904) (l : List Ent) (hl : l.length ≤ 4294967) : Ctr Tryz.prog 162 [.ag a.enc, iv c, iv p, .sl 16 (l.map Ent.enc)] (bv (gBrk a c p l)) [] := by
  refine spec_of_body mixed Tryz.func162 rfl (by kernel_rfl) (by kernel_rfl) ?_; conv => whnf
  refine tri_for0 mixed (by kernel_rfl) (fun j : Nat => j ≤ l.length ∧ ∀ k (hk : k < l.length), k < j → p + 1 + k ≤ c → termAt a (p + 1 + k) = (l[k]'hk).term) (fun j => [(13, iv j)]) [] (fun j => l.length - j) 0 ⟨Nat.zero_le _, fun k _ h => absurd h (Nat.not_lt_zero k)⟩ ?_ ?_
  · conv => whnf
    (refine And.intro (And.intro (by with_unfolding_all rfl) (by intro q h; cases h)) ?_; refine And.intro ?_ (And.intro ?_ ?_) <;> (conv => whnf) <;> (repeat' (first | exact True.intro | (with_reducible exact rfl) | exact (rfl : List.replicate 0 PV.bad = []) | ((with_reducible refine And.intro ?_ ?_) <;> (first | (with_reducible exact wkV_same _ rfl) | exact wkV_pt rfl rfl | exact wkV_ow rfl rfl rfl | (refine wkV_ow rfl rfl ?_) | (refine wkV_sc (congrArg (Value.int .i64) ?_)) | (refine wkV_sc (congrArg Value.bool ?_)) | exact wkV_ls rfl | ((refine wkV_cl ?_); conv => whnf) | ((refine wkV_tu ?_); conv => whnf) | ((refine wkV_ag ?_); conv => whnf) | (conv => whnf))))))
    all_goals rfl
  rintro j ⟨hj, hal⟩
  conv => whnf
  ((first | (with_reducible refine split_dec (fun h => ?_) (fun h => ?_)) | (with_reducible refine split_beq (fun h => ?_) (fun h => ?_)) | (with_reducible refine split_bne (fun h => ?_) (fun h => ?_)) | (with_reducible refine split_not (fun h => ?_) (fun h => ?_)) | (with_reducible refine split_beqS (fun h => ?_) (fun h => ?_)) | (with_reducible refine split_intro (fun h => ?_) (fun h => ?_))) <;> conv => whnf)
  · simp only [List.length_map] at h
    have hlt : j < l.length := by omega
    have e1 : IntKind.i64.wrap (IntKind.i64.wrap (p + (j : Int)) + 1) = p + 1 + (j : Int) := by
      rw [show IntKind.i64.wrap (p + (j : Int)) = p + j from wrap_id (by omega) (by omega), wrap_id (by omega) (by omega)]; omega
    have c1 := c_Term a hm hb (p + 1 + (j : Int)) (by unfold isI; omega)
    have next : (p + 1 + (j : Int) ≤ c → termAt a (p + 1 + (j : Int)) = (l[j]'hlt).term) → ∀ k (hk : k < l.length), k < j + 1 → p + 1 + k ≤ c → termAt a (p + 1 + k) = (l[k]'hk).term := fun hn k hk hkj hle => by
      by_cases ek : k = j
      · subst ek; exact hn hle
      · exact hal k hk (by omega) hle
    clear h
    (first | ((with_reducible refine And.intro (by omega) (Exists.intro _ (And.intro (row_at hlt) ?_))); conv => whnf))
    rw [e1]
    ((first | (with_reducible refine split_dec (fun h => ?_) (fun h => ?_)) | (with_reducible refine split_beq (fun h => ?_) (fun h => ?_)) | (with_reducible refine split_bne (fun h => ?_) (fun h => ?_)) | (with_reducible refine split_not (fun h => ?_) (fun h => ?_)) | (with_reducible refine split_beqS (fun h => ?_) (fun h => ?_)) | (with_reducible refine split_intro (fun h => ?_) (fun h => ?_))) <;> conv => whnf)
    · have h1 := h
      clear h
      rw [e1]
      ((try ((refine Exists.intro none ?_); (conv => whnf))); first | ((with_reducible refine call_by (c1) ?_); conv => whnf))
      ((first | (with_reducible refine split_dec (fun h => ?_) (fun h => ?_)) | (with_reducible refine split_beq (fun h => ?_) (fun h => ?_)) | (with_reducible refine split_bne (fun h => ?_) (fun h => ?_)) | (with_reducible refine split_not (fun h => ?_) (fun h => ?_)) | (with_reducible refine split_beqS (fun h => ?_) (fun h => ?_)) | (with_reducible refine split_intro (fun h => ?_) (fun h => ?_))) <;> conv => whnf)
      · exact exit_plain rfl (congrArg bv (gBrk_t hlt h1 h).symm)
      · refine ⟨j + 1, ⟨⟨by omega, next (fun _ => by first | exact h | exact Classical.byContradiction h)⟩, by omega⟩, ?_⟩
        conv => whnf
        (refine And.intro (And.intro (by with_unfolding_all rfl) (by intro q h; cases h)) ?_; refine And.intro ?_ (And.intro ?_ ?_) <;> (conv => whnf) <;> (repeat' (first | exact True.intro | (with_reducible exact rfl) | exact (rfl : List.replicate 0 PV.bad = []) | ((with_reducible refine And.intro ?_ ?_) <;> (first | (with_reducible exact wkV_same _ rfl) | exact wkV_pt rfl rfl | exact wkV_ow rfl rfl rfl | (refine wkV_ow rfl rfl ?_) | (refine wkV_sc (congrArg (Value.int .i64) ?_)) | (refine wkV_sc (congrArg Value.bool ?_)) | exact wkV_ls rfl | ((refine wkV_cl ?_); conv => whnf) | ((refine wkV_tu ?_); conv => whnf) | ((refine wkV_ag ?_); conv => whnf) | (conv => whnf))))))
        all_goals first | exact w1 (by omega) | rfl
    · refine ⟨j + 1, ⟨⟨by omega, next (fun hle => absurd hle h)⟩, by omega⟩, ?_⟩
      conv => whnf
      (refine And.intro (And.intro (by with_unfolding_all rfl) (by intro q h; cases h)) ?_; refine And.intro ?_ (And.intro ?_ ?_) <;> (conv => whnf) <;> (repeat' (first | exact True.intro | (with_reducible exact rfl) | exact (rfl : List.replicate 0 PV.bad = []) | ((with_reducible refine And.intro ?_ ?_) <;> (first | (with_reducible exact wkV_same _ rfl) | exact wkV_pt rfl rfl | exact wkV_ow rfl rfl rfl | (refine wkV_ow rfl rfl ?_) | (refine wkV_sc (congrArg (Value.int .i64) ?_)) | (refine wkV_sc (congrArg Value.bool ?_)) | exact wkV_ls rfl | ((refine wkV_cl ?_); conv => whnf) | ((refine wkV_tu ?_); conv => whnf) | ((refine wkV_ag ?_); conv => whnf) | (conv => whnf))))))
      all_goals first | exact w1 (by omega) | rfl
  · simp only [List.length_map] at h
    exact exit_plain rfl (congrArg bv (gBrk_f (fun k hk hle => hal k hk (by omega) hle)).symm)

set_option maxHeartbeats 8000000 in
theorem c_grow (a : Hrd) (h1 : a.snap.length ≤ 4294967296) (h2 : a.log.length ≤ 4294967) (hb : isI a.base) (c : Int) (m : Mg) (h3 : m.entries.length ≤ 4294967) :
    Ctr Tryz.prog 146 [.ag a.enc, iv c, .ag m.enc] (resG (growE a c m) (growO a c m)) (resGO (growE a c m) (growO a c m)) := by
  have hm : a.log.length ≤ maxLen := smallM (by omega)
  have hck := c_lCheck a hm
  by_cases hB : hardB a = true
  · rw [hB] at hck
    simp only [if_true] at hck
    have hb0 := (hardB_A hB).1.b
    have hla := hard_last hB h2
    have kR := c_gRight a hm c m
    by_cases hR : gRight a c m
    · rw [decide_eq_true hR] at kR
      have hR2 := hR
      obtain ⟨⟨g1, g2⟩, ⟨g3, g4⟩, g5, g6, g7⟩ := hR2
      have hPb : gP a m ≤ 1099511627776 ∧ a.base ≤ gP a m := by unfold gP; split <;> omega
      have hPI : isI (gP a m) := by unfold isI; omega
      have hLl := gL_len a m
      -- an empty put first: a twin
      have k0 := c_lPut a h1 h2 hb a.base hb [] (by simp)
      have e0 : putHE a a.base [] = 0 := by
        unfold putHE
        rw [if_pos hB, if_pos ⟨⟨by omega, by omega⟩, rfl⟩]
      have e0h : putH a a.base [] = a := by
        unfold putH
        rw [show (a.base - a.base).toNat = 0 by omega]
        show { a with log := putG a.log 0 [] } = a
        rw [show putG a.log 0 [] = a.log from by unfold putG; cases a.log <;> rfl]
      rw [(res_ok e0).1, (res_ok e0).2.1, e0h] at k0
      have kF := c_Fits a hm hb (gP a m) hPI (gT a m)
      have kK := c_breaks a hm hb c (gP a m) (by omega) (gL a m) (by omega)
      have kP := c_lPut a h1 h2 hb (gP a m) hPI (gL a m) (by omega)
      have hw : ∀ x : Int, 0 ≤ x ∧ x ≤ 1099511627776 → IntKind.i64.wrap (x - 1) = x - 1 := fun x hx => wrap_id (by omega) (by omega)
      have hw2 : ∀ x : Int, 0 ≤ x ∧ x ≤ 1099511627776 → IntKind.i64.wrap (x + ((gL a m).length : Int)) = x + (gL a m).length := fun x hx => wrap_id (by omega) (by omega)
      have hw3 : ∀ x : Int, 0 ≤ x ∧ x ≤ 1099511627776 → IntKind.i64.wrap (x + (m.entries.length : Int)) = x + m.entries.length := fun x hx => wrap_id (by omega) (by omega)
      have hcut : m.index < a.base → ∃ q : Nat, (if ((m.entries.map Ent.enc).length : Int) < IntKind.i64.wrap (a.base - m.index) then ((m.entries.map Ent.enc).length : Int) else IntKind.i64.wrap (a.base - m.index)) = (q : Int) ∧ q ≤ m.entries.length ∧ List.drop (q : Int).toNat (List.take (((m.entries.map Ent.enc).length : Nat) : Int).toNat (m.entries.map Ent.enc)) = (gL a m).map Ent.enc := fun hp => by
        have ew : IntKind.i64.wrap (a.base - m.index) = a.base - m.index := wrap_id (by omega) (by omega)
        refine ⟨min m.entries.length (a.base - m.index).toNat, ?_, Nat.min_le_left _ _, ?_⟩
        · rw [ew, List.length_map]
          split <;> omega
        · rw [Int.toNat_natCast, Int.toNat_natCast, List.take_length, List.map_drop.symm]
          unfold gL
          congr 1
          by_cases hd : (a.base - m.index).toNat ≤ m.entries.length
          · rw [Nat.min_eq_right hd]
          · rw [Nat.min_eq_left (by omega), List.drop_eq_nil_of_le (Nat.le_refl _), List.drop_eq_nil_of_le (by omega)]
      cases hf : fits a (gP a m) (gT a m) with
      | false =>
        obtain ⟨E, O⟩ := growE_no hB hR hf
        rw [(resG_ok E).1, (resG_ok E).2.1, O]
        dsimp only
        rw [hf] at kF
        by_cases hp : m.index < a.base
        · have hP : gP a m = a.base := by unfold gP; rw [if_pos hp]
          have hT : gT a m = a.baseTerm := by unfold gT; rw [if_pos hp]
          obtain ⟨q, eq, hq, eL⟩ := hcut hp
          rw [hP, hT] at kF
          rw [hP] at kK kP
          rw [hP]
          refine spec_of_body mixed Tryz.func146 rfl (by kernel_rfl) (by kernel_rfl) ?_; conv => whnf
          ((try ((refine Exists.intro none ?_); (conv => whnf))); first | ((with_reducible refine call_by (hck) ?_); conv => whnf))
          ((try ((refine Exists.intro none ?_); (conv => whnf))); first | ((with_reducible refine call_by (kR) ?_); conv => whnf))
          ((first | (with_reducible refine split_dec (fun h => ?_) (fun h => ?_)) | (with_reducible refine split_beq (fun h => ?_) (fun h => ?_)) | (with_reducible refine split_bne (fun h => ?_) (fun h => ?_)) | (with_reducible refine split_not (fun h => ?_) (fun h => ?_)) | (with_reducible refine split_beqS (fun h => ?_) (fun h => ?_)) | (with_reducible refine split_intro (fun h => ?_) (fun h => ?_))) <;> conv => whnf)
          all_goals first | (exfalso; omega) | skip
          clear h
          rw [eq]
          refine ⟨⟨by omega, by rw [List.length_map]; omega, Int.le_refl _⟩, ?_⟩
          conv => whnf
          refine Exists.intro none ?_
          conv => whnf
          rw [eL]
          ((try ((refine Exists.intro none ?_); (conv => whnf))); refine call_deep (k0) (by (repeat' (first | exact subVL_nil | exact subVR_nil | refine subVL_cons ?_ ?_ | refine subVR_cons ?_ ?_ | exact SubV.refl _ | exact subV_nl | (with_reducible exact subV_tk rfl) | refine subV_ag ?_ | refine subV_sl ?_ | refine subV_ep ?_))) ?_; conv => whnf)
          (refine Exists.intro _ (And.intro rfl (And.intro (by intro q hq; first | (cases hq; done) | (simp only [List.mem_cons, List.not_mem_nil, or_false] at hq; rcases hq with rfl | rfl <;> (simp only [List.length_cons, List.length_nil]; omega)) | (simp only [List.mem_cons, List.not_mem_nil, or_false] at hq; subst hq; simp only [List.length_cons, List.length_nil]; omega)) (And.intro (by intro i hi; rcases i with _ | _ | i; rfl; rfl; exact absurd hi (by simp)) ?_))); conv => whnf)
          ((try ((refine Exists.intro none ?_); (conv => whnf))); first | ((with_reducible refine call_by (kF) ?_); conv => whnf))
          ((try ((refine Exists.intro none ?_); (conv => whnf))); first | ((with_reducible refine call_by (c_Last a hm) ?_); conv => whnf))
          rw [hw _ (by omega)]
          refine exit_own [(0, 976), (1, 977)] rfl ⟨rfl, rfl, True.intro⟩ (wkV_tu ⟨wkV_ag ?_, wkV_same _ rfl, wkV_same _ rfl, wkV_same _ rfl, rfl⟩)
          conv => whnf
          repeat' (first | exact rfl | ((with_reducible refine And.intro ?_ ?_) <;> (first | (with_reducible exact wkV_same _ rfl) | exact wkV_ow rfl rfl rfl | (conv => whnf))))
        · have hP : gP a m = m.index := by unfold gP; rw [if_neg hp]
          have hT : gT a m = m.logTerm := by unfold gT; rw [if_neg hp]
          have hL : gL a m = m.entries := by unfold gL; rw [show (a.base - m.index).toNat = 0 by omega, List.drop_zero]
          rw [hP, hT] at kF
          rw [hP, hL] at kK kP
          rw [hP]
          refine spec_of_body mixed Tryz.func146 rfl (by kernel_rfl) (by kernel_rfl) ?_; conv => whnf
          ((try ((refine Exists.intro none ?_); (conv => whnf))); first | ((with_reducible refine call_by (hck) ?_); conv => whnf))
          ((try ((refine Exists.intro none ?_); (conv => whnf))); first | ((with_reducible refine call_by (kR) ?_); conv => whnf))
          ((first | (with_reducible refine split_dec (fun h => ?_) (fun h => ?_)) | (with_reducible refine split_beq (fun h => ?_) (fun h => ?_)) | (with_reducible refine split_bne (fun h => ?_) (fun h => ?_)) | (with_reducible refine split_not (fun h => ?_) (fun h => ?_)) | (with_reducible refine split_beqS (fun h => ?_) (fun h => ?_)) | (with_reducible refine split_intro (fun h => ?_) (fun h => ?_))) <;> conv => whnf)
          all_goals first | (exfalso; omega) | skip
          clear h
          ((try ((refine Exists.intro none ?_); (conv => whnf))); refine call_deep (k0) (by (repeat' (first | exact subVL_nil | exact subVR_nil | refine subVL_cons ?_ ?_ | refine subVR_cons ?_ ?_ | exact SubV.refl _ | exact subV_nl | (with_reducible exact subV_tk rfl) | refine subV_ag ?_ | refine subV_sl ?_ | refine subV_ep ?_))) ?_; conv => whnf)
          (refine Exists.intro _ (And.intro rfl (And.intro (by intro q hq; first | (cases hq; done) | (simp only [List.mem_cons, List.not_mem_nil, or_false] at hq; rcases hq with rfl | rfl <;> (simp only [List.length_cons, List.length_nil]; omega)) | (simp only [List.mem_cons, List.not_mem_nil, or_false] at hq; subst hq; simp only [List.length_cons, List.length_nil]; omega)) (And.intro (by intro i hi; rcases i with _ | _ | i; rfl; rfl; exact absurd hi (by simp)) ?_))); conv => whnf)
          ((try ((refine Exists.intro none ?_); (conv => whnf))); first | ((with_reducible refine call_by (kF) ?_); conv => whnf))
          ((try ((refine Exists.intro none ?_); (conv => whnf))); first | ((with_reducible refine call_by (c_Last a hm) ?_); conv => whnf))
          rw [hw _ (by omega)]
          refine exit_own [(0, 976), (1, 977)] rfl ⟨rfl, rfl, True.intro⟩ (wkV_tu ⟨wkV_ag ?_, wkV_same _ rfl, wkV_same _ rfl, wkV_same _ rfl, rfl⟩)
          conv => whnf
          repeat' (first | exact rfl | ((with_reducible refine And.intro ?_ ?_) <;> (first | (with_reducible exact wkV_same _ rfl) | exact wkV_ow rfl rfl rfl | (conv => whnf))))
      | true =>
        rw [hf] at kF
        cases hk : gBrk a c (gP a m) (gL a m) with
        | true =>
          have E := growE_brk hB hR hf hk
          rw [hk] at kK
          rw [(resG_no (by omega)).1, (resG_no (by omega)).2.1, E]
          by_cases hp : m.index < a.base
          · have hP : gP a m = a.base := by unfold gP; rw [if_pos hp]
            have hT : gT a m = a.baseTerm := by unfold gT; rw [if_pos hp]
            obtain ⟨q, eq, hq, eL⟩ := hcut hp
            rw [hP, hT] at kF
            rw [hP] at kK kP
            refine spec_of_body mixed Tryz.func146 rfl (by kernel_rfl) (by kernel_rfl) ?_; conv => whnf
            ((try ((refine Exists.intro none ?_); (conv => whnf))); first | ((with_reducible refine call_by (hck) ?_); conv => whnf))
            ((try ((refine Exists.intro none ?_); (conv => whnf))); first | ((with_reducible refine call_by (kR) ?_); conv => whnf))
            ((first | (with_reducible refine split_dec (fun h => ?_) (fun h => ?_)) | (with_reducible refine split_beq (fun h => ?_) (fun h => ?_)) | (with_reducible refine split_bne (fun h => ?_) (fun h => ?_)) | (with_reducible refine split_not (fun h => ?_) (fun h => ?_)) | (with_reducible refine split_beqS (fun h => ?_) (fun h => ?_)) | (with_reducible refine split_intro (fun h => ?_) (fun h => ?_))) <;> conv => whnf)
            all_goals first | (exfalso; omega) | skip
            clear h
            rw [eq]
            refine ⟨⟨by omega, by rw [List.length_map]; omega, Int.le_refl _⟩, ?_⟩
            conv => whnf
            refine Exists.intro none ?_
            conv => whnf
            rw [eL]
            ((try ((refine Exists.intro none ?_); (conv => whnf))); refine call_deep (k0) (by (repeat' (first | exact subVL_nil | exact subVR_nil | refine subVL_cons ?_ ?_ | refine subVR_cons ?_ ?_ | exact SubV.refl _ | exact subV_nl | (with_reducible exact subV_tk rfl) | refine subV_ag ?_ | refine subV_sl ?_ | refine subV_ep ?_))) ?_; conv => whnf)
            (refine Exists.intro _ (And.intro rfl (And.intro (by intro q hq; first | (cases hq; done) | (simp only [List.mem_cons, List.not_mem_nil, or_false] at hq; rcases hq with rfl | rfl <;> (simp only [List.length_cons, List.length_nil]; omega)) | (simp only [List.mem_cons, List.not_mem_nil, or_false] at hq; subst hq; simp only [List.length_cons, List.length_nil]; omega)) (And.intro (by intro i hi; rcases i with _ | _ | i; rfl; rfl; exact absurd hi (by simp)) ?_))); conv => whnf)
            ((try ((refine Exists.intro none ?_); (conv => whnf))); first | ((with_reducible refine call_by (kF) ?_); conv => whnf))
            ((try ((refine Exists.intro none ?_); (conv => whnf))); first | ((with_reducible refine call_by (kK) ?_); conv => whnf))
            exact exit_plain rfl rfl
          · have hP : gP a m = m.index := by unfold gP; rw [if_neg hp]
            have hT : gT a m = m.logTerm := by unfold gT; rw [if_neg hp]
            have hL : gL a m = m.entries := by unfold gL; rw [show (a.base - m.index).toNat = 0 by omega, List.drop_zero]
            rw [hP, hT] at kF
            rw [hP, hL] at kK kP
            refine spec_of_body mixed Tryz.func146 rfl (by kernel_rfl) (by kernel_rfl) ?_; conv => whnf
            ((try ((refine Exists.intro none ?_); (conv => whnf))); first | ((with_reducible refine call_by (hck) ?_); conv => whnf))
            ((try ((refine Exists.intro none ?_); (conv => whnf))); first | ((with_reducible refine call_by (kR) ?_); conv => whnf))
            ((first | (with_reducible refine split_dec (fun h => ?_) (fun h => ?_)) | (with_reducible refine split_beq (fun h => ?_) (fun h => ?_)) | (with_reducible refine split_bne (fun h => ?_) (fun h => ?_)) | (with_reducible refine split_not (fun h => ?_) (fun h => ?_)) | (with_reducible refine split_beqS (fun h => ?_) (fun h => ?_)) | (with_reducible refine split_intro (fun h => ?_) (fun h => ?_))) <;> conv => whnf)
            all_goals first | (exfalso; omega) | skip
            clear h
            ((try ((refine Exists.intro none ?_); (conv => whnf))); refine call_deep (k0) (by (repeat' (first | exact subVL_nil | exact subVR_nil | refine subVL_cons ?_ ?_ | refine subVR_cons ?_ ?_ | exact SubV.refl _ | exact subV_nl | (with_reducible exact subV_tk rfl) | refine subV_ag ?_ | refine subV_sl ?_ | refine subV_ep ?_))) ?_; conv => whnf)
            (refine Exists.intro _ (And.intro rfl (And.intro (by intro q hq; first | (cases hq; done) | (simp only [List.mem_cons, List.not_mem_nil, or_false] at hq; rcases hq with rfl | rfl <;> (simp only [List.length_cons, List.length_nil]; omega)) | (simp only [List.mem_cons, List.not_mem_nil, or_false] at hq; subst hq; simp only [List.length_cons, List.length_nil]; omega)) (And.intro (by intro i hi; rcases i with _ | _ | i; rfl; rfl; exact absurd hi (by simp)) ?_))); conv => whnf)
            ((try ((refine Exists.intro none ?_); (conv => whnf))); first | ((with_reducible refine call_by (kF) ?_); conv => whnf))
            ((try ((refine Exists.intro none ?_); (conv => whnf))); first | ((with_reducible refine call_by (kK) ?_); conv => whnf))
            exact exit_plain rfl rfl
        | false =>
          obtain ⟨E, O⟩ := growE_put hB hR hf hk
          rw [hk] at kK
          by_cases e : putHE a (gP a m) (gL a m) = 0
          · rw [(res_ok e).1, (res_ok e).2.1] at kP
            rw [(resG_ok (E.trans e)).1, (resG_ok (E.trans e)).2.1, O]
            dsimp only
            by_cases hp : m.index < a.base
            · have hP : gP a m = a.base := by unfold gP; rw [if_pos hp]
              have hT : gT a m = a.baseTerm := by unfold gT; rw [if_pos hp]
              obtain ⟨q, eq, hq, eL⟩ := hcut hp
              rw [hP, hT] at kF
              rw [hP] at kK kP
              rw [hP]
              refine spec_of_body mixed Tryz.func146 rfl (by kernel_rfl) (by kernel_rfl) ?_; conv => whnf
              ((try ((refine Exists.intro none ?_); (conv => whnf))); first | ((with_reducible refine call_by (hck) ?_); conv => whnf))
              ((try ((refine Exists.intro none ?_); (conv => whnf))); first | ((with_reducible refine call_by (kR) ?_); conv => whnf))
              ((first | (with_reducible refine split_dec (fun h => ?_) (fun h => ?_)) | (with_reducible refine split_beq (fun h => ?_) (fun h => ?_)) | (with_reducible refine split_bne (fun h => ?_) (fun h => ?_)) | (with_reducible refine split_not (fun h => ?_) (fun h => ?_)) | (with_reducible refine split_beqS (fun h => ?_) (fun h => ?_)) | (with_reducible refine split_intro (fun h => ?_) (fun h => ?_))) <;> conv => whnf)
              all_goals first | (exfalso; omega) | skip
              clear h
              rw [eq]
              refine ⟨⟨by omega, by rw [List.length_map]; omega, Int.le_refl _⟩, ?_⟩
              conv => whnf
              refine Exists.intro none ?_
              conv => whnf
              rw [eL]
              ((try ((refine Exists.intro none ?_); (conv => whnf))); refine call_deep (k0) (by (repeat' (first | exact subVL_nil | exact subVR_nil | refine subVL_cons ?_ ?_ | refine subVR_cons ?_ ?_ | exact SubV.refl _ | exact subV_nl | (with_reducible exact subV_tk rfl) | refine subV_ag ?_ | refine subV_sl ?_ | refine subV_ep ?_))) ?_; conv => whnf)
              (refine Exists.intro _ (And.intro rfl (And.intro (by intro q hq; first | (cases hq; done) | (simp only [List.mem_cons, List.not_mem_nil, or_false] at hq; rcases hq with rfl | rfl <;> (simp only [List.length_cons, List.length_nil]; omega)) | (simp only [List.mem_cons, List.not_mem_nil, or_false] at hq; subst hq; simp only [List.length_cons, List.length_nil]; omega)) (And.intro (by intro i hi; rcases i with _ | _ | i; rfl; rfl; exact absurd hi (by simp)) ?_))); conv => whnf)
              ((try ((refine Exists.intro none ?_); (conv => whnf))); first | ((with_reducible refine call_by (kF) ?_); conv => whnf))
              ((try ((refine Exists.intro none ?_); (conv => whnf))); first | ((with_reducible refine call_by (kK) ?_); conv => whnf))
              ((try ((refine Exists.intro none ?_); (conv => whnf))); first | ((with_reducible refine call_by (kP) ?_); conv => whnf))
              (refine Exists.intro _ (And.intro rfl (And.intro (by intro q hq; first | (cases hq; done) | (simp only [List.mem_cons, List.not_mem_nil, or_false] at hq; rcases hq with rfl | rfl <;> (simp only [List.length_cons, List.length_nil]; omega)) | (simp only [List.mem_cons, List.not_mem_nil, or_false] at hq; subst hq; simp only [List.length_cons, List.length_nil]; omega)) (And.intro (by intro i hi; rcases i with _ | _ | i; rfl; rfl; exact absurd hi (by simp)) ?_))); conv => whnf)
              rw [show ((List.map Ent.enc (gL a m)).length : Int) = (gL a m).length from by rw [List.length_map], hw2 _ (by omega)]
              refine exit_own [(0, 1600), (1, 1601)] rfl ⟨rfl, rfl, True.intro⟩ (wkV_tu ⟨wkV_ag ?_, wkV_same _ rfl, wkV_same _ rfl, wkV_same _ rfl, rfl⟩)
              conv => whnf
              repeat' (first | exact rfl | ((with_reducible refine And.intro ?_ ?_) <;> (first | (with_reducible exact wkV_same _ rfl) | exact wkV_ow rfl rfl rfl | (conv => whnf))))
            · have hP : gP a m = m.index := by unfold gP; rw [if_neg hp]
              have hT : gT a m = m.logTerm := by unfold gT; rw [if_neg hp]
              have hL : gL a m = m.entries := by unfold gL; rw [show (a.base - m.index).toNat = 0 by omega, List.drop_zero]
              rw [hP, hT] at kF
              rw [hP, hL] at kK kP
              rw [hP, hL]
              refine spec_of_body mixed Tryz.func146 rfl (by kernel_rfl) (by kernel_rfl) ?_; conv => whnf
              ((try ((refine Exists.intro none ?_); (conv => whnf))); first | ((with_reducible refine call_by (hck) ?_); conv => whnf))
              ((try ((refine Exists.intro none ?_); (conv => whnf))); first | ((with_reducible refine call_by (kR) ?_); conv => whnf))
              ((first | (with_reducible refine split_dec (fun h => ?_) (fun h => ?_)) | (with_reducible refine split_beq (fun h => ?_) (fun h => ?_)) | (with_reducible refine split_bne (fun h => ?_) (fun h => ?_)) | (with_reducible refine split_not (fun h => ?_) (fun h => ?_)) | (with_reducible refine split_beqS (fun h => ?_) (fun h => ?_)) | (with_reducible refine split_intro (fun h => ?_) (fun h => ?_))) <;> conv => whnf)
              all_goals first | (exfalso; omega) | skip
              clear h
              ((try ((refine Exists.intro none ?_); (conv => whnf))); refine call_deep (k0) (by (repeat' (first | exact subVL_nil | exact subVR_nil | refine subVL_cons ?_ ?_ | refine subVR_cons ?_ ?_ | exact SubV.refl _ | exact subV_nl | (with_reducible exact subV_tk rfl) | refine subV_ag ?_ | refine subV_sl ?_ | refine subV_ep ?_))) ?_; conv => whnf)
              (refine Exists.intro _ (And.intro rfl (And.intro (by intro q hq; first | (cases hq; done) | (simp only [List.mem_cons, List.not_mem_nil, or_false] at hq; rcases hq with rfl | rfl <;> (simp only [List.length_cons, List.length_nil]; omega)) | (simp only [List.mem_cons, List.not_mem_nil, or_false] at hq; subst hq; simp only [List.length_cons, List.length_nil]; omega)) (And.intro (by intro i hi; rcases i with _ | _ | i; rfl; rfl; exact absurd hi (by simp)) ?_))); conv => whnf)
              ((try ((refine Exists.intro none ?_); (conv => whnf))); first | ((with_reducible refine call_by (kF) ?_); conv => whnf))
              ((try ((refine Exists.intro none ?_); (conv => whnf))); first | ((with_reducible refine call_by (kK) ?_); conv => whnf))
              ((try ((refine Exists.intro none ?_); (conv => whnf))); first | ((with_reducible refine call_by (kP) ?_); conv => whnf))
              (refine Exists.intro _ (And.intro rfl (And.intro (by intro q hq; first | (cases hq; done) | (simp only [List.mem_cons, List.not_mem_nil, or_false] at hq; rcases hq with rfl | rfl <;> (simp only [List.length_cons, List.length_nil]; omega)) | (simp only [List.mem_cons, List.not_mem_nil, or_false] at hq; subst hq; simp only [List.length_cons, List.length_nil]; omega)) (And.intro (by intro i hi; rcases i with _ | _ | i; rfl; rfl; exact absurd hi (by simp)) ?_))); conv => whnf)
              rw [show ((List.map Ent.enc m.entries).length : Int) = m.entries.length from by rw [List.length_map], hw3 _ (by omega)]
              refine exit_own [(0, 1600), (1, 1601)] rfl ⟨rfl, rfl, True.intro⟩ (wkV_tu ⟨wkV_ag ?_, wkV_same _ rfl, wkV_same _ rfl, wkV_same _ rfl, rfl⟩)
              conv => whnf
              repeat' (first | exact rfl | ((with_reducible refine And.intro ?_ ?_) <;> (first | (with_reducible exact wkV_same _ rfl) | exact wkV_ow rfl rfl rfl | (conv => whnf))))
          · rw [(res_no e).1, (res_no e).2.1] at kP
            rw [(resG_no (by omega)).1, (resG_no (by omega)).2.1, E]
            by_cases hp : m.index < a.base
            · have hP : gP a m = a.base := by unfold gP; rw [if_pos hp]
              have hT : gT a m = a.baseTerm := by unfold gT; rw [if_pos hp]
              obtain ⟨q, eq, hq, eL⟩ := hcut hp
              rw [hP, hT] at kF
              rw [hP] at kK kP e
              rw [hP]
              refine spec_of_body mixed Tryz.func146 rfl (by kernel_rfl) (by kernel_rfl) ?_; conv => whnf
              ((try ((refine Exists.intro none ?_); (conv => whnf))); first | ((with_reducible refine call_by (hck) ?_); conv => whnf))
              ((try ((refine Exists.intro none ?_); (conv => whnf))); first | ((with_reducible refine call_by (kR) ?_); conv => whnf))
              ((first | (with_reducible refine split_dec (fun h => ?_) (fun h => ?_)) | (with_reducible refine split_beq (fun h => ?_) (fun h => ?_)) | (with_reducible refine split_bne (fun h => ?_) (fun h => ?_)) | (with_reducible refine split_not (fun h => ?_) (fun h => ?_)) | (with_reducible refine split_beqS (fun h => ?_) (fun h => ?_)) | (with_reducible refine split_intro (fun h => ?_) (fun h => ?_))) <;> conv => whnf)
              all_goals first | (exfalso; omega) | skip
              clear h
              rw [eq]
              refine ⟨⟨by omega, by rw [List.length_map]; omega, Int.le_refl _⟩, ?_⟩
              conv => whnf
              refine Exists.intro none ?_
              conv => whnf
              rw [eL]
              ((try ((refine Exists.intro none ?_); (conv => whnf))); refine call_deep (k0) (by (repeat' (first | exact subVL_nil | exact subVR_nil | refine subVL_cons ?_ ?_ | refine subVR_cons ?_ ?_ | exact SubV.refl _ | exact subV_nl | (with_reducible exact subV_tk rfl) | refine subV_ag ?_ | refine subV_sl ?_ | refine subV_ep ?_))) ?_; conv => whnf)
              (refine Exists.intro _ (And.intro rfl (And.intro (by intro q hq; first | (cases hq; done) | (simp only [List.mem_cons, List.not_mem_nil, or_false] at hq; rcases hq with rfl | rfl <;> (simp only [List.length_cons, List.length_nil]; omega)) | (simp only [List.mem_cons, List.not_mem_nil, or_false] at hq; subst hq; simp only [List.length_cons, List.length_nil]; omega)) (And.intro (by intro i hi; rcases i with _ | _ | i; rfl; rfl; exact absurd hi (by simp)) ?_))); conv => whnf)
              ((try ((refine Exists.intro none ?_); (conv => whnf))); first | ((with_reducible refine call_by (kF) ?_); conv => whnf))
              ((try ((refine Exists.intro none ?_); (conv => whnf))); first | ((with_reducible refine call_by (kK) ?_); conv => whnf))
              ((try ((refine Exists.intro none ?_); (conv => whnf))); first | ((with_reducible refine call_by (kP) ?_); conv => whnf))
              ((first | (with_reducible refine split_dec (fun h => ?_) (fun h => ?_)) | (with_reducible refine split_beq (fun h => ?_) (fun h => ?_)) | (with_reducible refine split_bne (fun h => ?_) (fun h => ?_)) | (with_reducible refine split_not (fun h => ?_) (fun h => ?_)) | (with_reducible refine split_beqS (fun h => ?_) (fun h => ?_)) | (with_reducible refine split_intro (fun h => ?_) (fun h => ?_))) <;> conv => whnf)
              all_goals first | exact exit_plain rfl rfl | (exfalso; omega)
            · have hP : gP a m = m.index := by unfold gP; rw [if_neg hp]
              have hT : gT a m = m.logTerm := by unfold gT; rw [if_neg hp]
              have hL : gL a m = m.entries := by unfold gL; rw [show (a.base - m.index).toNat = 0 by omega, List.drop_zero]
              rw [hP, hT] at kF
              rw [hP, hL] at kK kP e
              rw [hP, hL]
              refine spec_of_body mixed Tryz.func146 rfl (by kernel_rfl) (by kernel_rfl) ?_; conv => whnf
              ((try ((refine Exists.intro none ?_); (conv => whnf))); first | ((with_reducible refine call_by (hck) ?_); conv => whnf))
              ((try ((refine Exists.intro none ?_); (conv => whnf))); first | ((with_reducible refine call_by (kR) ?_); conv => whnf))
              ((first | (with_reducible refine split_dec (fun h => ?_) (fun h => ?_)) | (with_reducible refine split_beq (fun h => ?_) (fun h => ?_)) | (with_reducible refine split_bne (fun h => ?_) (fun h => ?_)) | (with_reducible refine split_not (fun h => ?_) (fun h => ?_)) | (with_reducible refine split_beqS (fun h => ?_) (fun h => ?_)) | (with_reducible refine split_intro (fun h => ?_) (fun h => ?_))) <;> conv => whnf)
              all_goals first | (exfalso; omega) | skip
              clear h
              ((try ((refine Exists.intro none ?_); (conv => whnf))); refine call_deep (k0) (by (repeat' (first | exact subVL_nil | exact subVR_nil | refine subVL_cons ?_ ?_ | refine subVR_cons ?_ ?_ | exact SubV.refl _ | exact subV_nl | (with_reducible exact subV_tk rfl) | refine subV_ag ?_ | refine subV_sl ?_ | refine subV_ep ?_))) ?_; conv => whnf)
              (refine Exists.intro _ (And.intro rfl (And.intro (by intro q hq; first | (cases hq; done) | (simp only [List.mem_cons, List.not_mem_nil, or_false] at hq; rcases hq with rfl | rfl <;> (simp only [List.length_cons, List.length_nil]; omega)) | (simp only [List.mem_cons, List.not_mem_nil, or_false] at hq; subst hq; simp only [List.length_cons, List.length_nil]; omega)) (And.intro (by intro i hi; rcases i with _ | _ | i; rfl; rfl; exact absurd hi (by simp)) ?_))); conv => whnf)
              ((try ((refine Exists.intro none ?_); (conv => whnf))); first | ((with_reducible refine call_by (kF) ?_); conv => whnf))
              ((try ((refine Exists.intro none ?_); (conv => whnf))); first | ((with_reducible refine call_by (kK) ?_); conv => whnf))
              ((try ((refine Exists.intro none ?_); (conv => whnf))); first | ((with_reducible refine call_by (kP) ?_); conv => whnf))
              ((first | (with_reducible refine split_dec (fun h => ?_) (fun h => ?_)) | (with_reducible refine split_beq (fun h => ?_) (fun h => ?_)) | (with_reducible refine split_bne (fun h => ?_) (fun h => ?_)) | (with_reducible refine split_not (fun h => ?_) (fun h => ?_)) | (with_reducible refine split_beqS (fun h => ?_) (fun h => ?_)) | (with_reducible refine split_intro (fun h => ?_) (fun h => ?_))) <;> conv => whnf)
              all_goals first | exact exit_plain rfl rfl | (exfalso; omega)
    · rw [decide_eq_false hR] at kR
      have E : growE a c m = 1 := by unfold growE; rw [if_pos hB, if_neg hR]
      rw [(resG_no (by omega)).1, (resG_no (by omega)).2.1, E]
      refine spec_of_body mixed Tryz.func146 rfl (by kernel_rfl) (by kernel_rfl) ?_; conv => whnf
      ((try ((refine Exists.intro none ?_); (conv => whnf))); first | ((with_reducible refine call_by (hck) ?_); conv => whnf))
      ((try ((refine Exists.intro none ?_); (conv => whnf))); first | ((with_reducible refine call_by (kR) ?_); conv => whnf))
      exact exit_plain rfl rfl
  · have E : growE a c m = 6 := by unfold growE; rw [if_neg hB]
    rw [(resG_no (by omega)).1, (resG_no (by omega)).2.1, E]
    simp only [Bool.not_eq_true] at hB
    rw [hB] at hck
    simp only [Bool.false_eq_true, if_false] at hck
    refine spec_of_body mixed Tryz.func146 rfl (by kernel_rfl) (by kernel_rfl) ?_; conv => whnf
    ((try ((refine Exists.intro none ?_); (conv => whnf))); first | ((with_reducible refine call_by (hck) ?_); conv => whnf))
    exact exit_plain rfl rfl
end Go.Proofs
