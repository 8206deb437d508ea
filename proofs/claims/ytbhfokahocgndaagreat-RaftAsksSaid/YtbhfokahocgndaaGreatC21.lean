/- Contracts of functions: the reference's steps, all of them; near. -/
import Derived.Test.YtbhfokahocgndaaGreatC17
import Derived.Test.YtbhfokahocgndaaGreatC1
import Derived.Test.YtbhfokahocgndaaGreatC13
set_option linter.unusedSimpArgs false
set_option linter.unusedVariables false
namespace Go.Proofs
open Go.Pv
set_option maxRecDepth 100000

theorem kind4_Fb (f w l x : Bool) : ((kind4 f w l x).toList == (ByteArray.mk #[102, 117, 108, 108]).toList) = f := by
  cases f <;> cases w <;> cases l <;> cases x <;> decide +kernel
theorem kind4_Wb (f w l x : Bool) (h : one4 f w l x = true) : ((kind4 f w l x).toList == (ByteArray.mk #[119, 105, 116]).toList) = w := by
  revert h; cases f <;> cases w <;> cases l <;> cases x <;> decide +kernel
theorem kind4_Lb (f w l x : Bool) (h : one4 f w l x = true) : ((kind4 f w l x).toList == (ByteArray.mk #[108, 101, 97, 114, 110]).toList) = l := by
  revert h; cases f <;> cases w <;> cases l <;> cases x <;> decide +kernel
theorem kind4_Xb (f w l x : Bool) (h : one4 f w l x = true) : ((kind4 f w l x).toList == (ByteArray.mk #[108, 101, 97, 114, 110, 119, 105, 116]).toList) = x := by
  revert h; cases f <;> cases w <;> cases l <;> cases x <;> decide +kernel


noncomputable def stepsAt (c : Conf) (n : Nat) : List Conf :=
  if tb c.full n then [dele c n] else if tb c.wit n then [dele c n] else if tb c.learn n then [dele c n, proL c n] else if tb c.lwit n then [dele c n, proX c n] else [addL c n, addX c n]
noncomputable def stepsL (c : Conf) : Nat → List Conf
  | 0 => []
  | n + 1 => stepsL c n ++ stepsAt c n
theorem stepsAt_len (c : Conf) (n : Nat) : (stepsAt c n).length ≤ 2 := by unfold stepsAt; (repeat' split) <;> simp
theorem stepsL_len (c : Conf) : ∀ n, (stepsL c n).length ≤ 2 * n
  | 0 => by simp [stepsL]
  | n + 1 => by have := stepsL_len c n; have := stepsAt_len c n; simp only [stepsL, List.length_append]; omega

theorem andn_0 {x : Int} {n : Nat} (hx : Bits7 x) (hn : n < 7) (h : tb x n = false) : bandn x (shl 1 n) = x := ext7 (bits7_andn hx) hx fun i _ => by
  rw [tb_andn', tb_shl n i (by omega)]
  by_cases e : n = i
  · subst e; simp [h]
  · simp [e]

set_option maxHeartbeats 2000000 in
theorem c_rSteps (c : Conf) (hk : Cok c) : Ctr Tryz.prog 102 [.ag c.enc] (.ow 0 0 ((stepsL c 7).map Conf.enc).length) [(4, (stepsL c 7).map Conf.enc)] := by
  refine spec_of_body mixed Tryz.func102 rfl (by kernel_rfl) (by kernel_rfl) ?_; conv => whnf
  refine tri_nil 3 1000 4 rfl rfl ?_
  conv => whnf
  refine tri_forO mixed (by kernel_rfl) (fun i : Nat => i ≤ 7) (fun i => [(4, iv i), (3, .ow 1000 0 (stepsL c i).length)]) (fun _ => [(1, c.enc)]) (fun i => [(1000, some (false, 4, (stepsL c i).map Conf.enc))]) [(1000, 1000)] (fun i => 7 - i) 0 (by decide) ?_ ?_
  · conv => whnf
    (refine And.intro (And.intro (by with_unfolding_all rfl) (by intro q h; cases h)) ?_; refine And.intro ?_ (And.intro ?_ ?_) <;> (conv => whnf) <;> (repeat' (first | exact True.intro | (with_reducible exact rfl) | exact (rfl : List.replicate 0 PV.bad = []) | ((with_reducible refine And.intro ?_ ?_) <;> (first | (with_reducible exact wkV_same _ rfl) | exact wkV_pt rfl rfl | exact wkV_ow rfl rfl rfl | (refine wkV_ow rfl rfl ?_) | (refine wkV_sc (congrArg (Value.int .i64) ?_)) | (refine wkV_sc (congrArg Value.bool ?_)) | exact wkV_ls rfl | ((refine wkV_cl ?_); conv => whnf) | ((refine wkV_tu ?_); conv => whnf) | ((refine wkV_ag ?_); conv => whnf) | (conv => whnf))))))
    all_goals rfl
  intro n hn
  conv => whnf
  ((first | (with_reducible refine split_dec (fun h => ?_) (fun h => ?_)) | (with_reducible refine split_beq (fun h => ?_) (fun h => ?_)) | (with_reducible refine split_bne (fun h => ?_) (fun h => ?_)) | (with_reducible refine split_not (fun h => ?_) (fun h => ?_)) | (with_reducible refine split_beqS (fun h => ?_) (fun h => ?_)) | (with_reducible refine split_intro (fun h => ?_) (fun h => ?_))) <;> conv => whnf)
  · have hn : n < 7 := by omega
    have one := hk.one n
    have hlen := stepsL_len c n
    have hb := shl_small hn
    have hsu : ishl IntKind.i64 1 (IntKind.u64.wrap (n : Int)) = shl 1 n := shl_u hn
    have bf := hk.f
    have bw := hk.w
    have bl := hk.l
    have bx := hk.x
    unfold Bits7 at bf bw bl bx
    have q1 := kind4_Fb (tb c.full n) (tb c.wit n) (tb c.learn n) (tb c.lwit n)
    have q2 := kind4_Wb _ _ _ _ one
    have q3 := kind4_Lb _ _ _ _ one
    have q4 := kind4_Xb _ _ _ _ one
    rw [← kind_4 c hn] at q1 q2 q3 q4
    refine ⟨⟨by decide, u64_nonneg _⟩, ?_⟩
    conv => whnf
    ((try ((refine Exists.intro none ?_); (conv => whnf))); first | ((with_reducible refine call_by (c_rKind c n) ?_); conv => whnf))
    cases hf : tb c.full n
    all_goals rw [hf] at q1
    · ((first | (first | (with_reducible refine split_dt (by assumption) ?_) | (with_reducible refine split_df (by assumption) ?_) | (with_reducible refine split_et (by assumption) ?_) | (with_reducible refine split_ef (by assumption) ?_) | (with_reducible refine split_bt (by assumption) ?_) | (with_reducible refine split_bf (by assumption) ?_) | (with_reducible refine split_nt (by assumption) ?_) | (with_reducible refine split_nf (by assumption) ?_) | (with_reducible refine split_t (by assumption) ?_) | (with_reducible refine split_f (by assumption) ?_)) | (first | (with_reducible refine split_dec (fun h => ?_) (fun h => ?_)) | (with_reducible refine split_beq (fun h => ?_) (fun h => ?_)) | (with_reducible refine split_bne (fun h => ?_) (fun h => ?_)) | (with_reducible refine split_not (fun h => ?_) (fun h => ?_)) | (with_reducible refine split_beqS (fun h => ?_) (fun h => ?_)) | (with_reducible refine split_intro (fun h => ?_) (fun h => ?_)))) <;> conv => whnf)
      cases hw : tb c.wit n
      all_goals rw [hw] at q2
      · ((first | (first | (with_reducible refine split_dt (by assumption) ?_) | (with_reducible refine split_df (by assumption) ?_) | (with_reducible refine split_et (by assumption) ?_) | (with_reducible refine split_ef (by assumption) ?_) | (with_reducible refine split_bt (by assumption) ?_) | (with_reducible refine split_bf (by assumption) ?_) | (with_reducible refine split_nt (by assumption) ?_) | (with_reducible refine split_nf (by assumption) ?_) | (with_reducible refine split_t (by assumption) ?_) | (with_reducible refine split_f (by assumption) ?_)) | (first | (with_reducible refine split_dec (fun h => ?_) (fun h => ?_)) | (with_reducible refine split_beq (fun h => ?_) (fun h => ?_)) | (with_reducible refine split_bne (fun h => ?_) (fun h => ?_)) | (with_reducible refine split_not (fun h => ?_) (fun h => ?_)) | (with_reducible refine split_beqS (fun h => ?_) (fun h => ?_)) | (with_reducible refine split_intro (fun h => ?_) (fun h => ?_)))) <;> conv => whnf)
        cases hl : tb c.learn n
        all_goals rw [hl] at q3
        · ((first | (first | (with_reducible refine split_dt (by assumption) ?_) | (with_reducible refine split_df (by assumption) ?_) | (with_reducible refine split_et (by assumption) ?_) | (with_reducible refine split_ef (by assumption) ?_) | (with_reducible refine split_bt (by assumption) ?_) | (with_reducible refine split_bf (by assumption) ?_) | (with_reducible refine split_nt (by assumption) ?_) | (with_reducible refine split_nf (by assumption) ?_) | (with_reducible refine split_t (by assumption) ?_) | (with_reducible refine split_f (by assumption) ?_)) | (first | (with_reducible refine split_dec (fun h => ?_) (fun h => ?_)) | (with_reducible refine split_beq (fun h => ?_) (fun h => ?_)) | (with_reducible refine split_bne (fun h => ?_) (fun h => ?_)) | (with_reducible refine split_not (fun h => ?_) (fun h => ?_)) | (with_reducible refine split_beqS (fun h => ?_) (fun h => ?_)) | (with_reducible refine split_intro (fun h => ?_) (fun h => ?_)))) <;> conv => whnf)
          cases hx : tb c.lwit n
          all_goals rw [hx] at q4
          · ((first | (first | (with_reducible refine split_dt (by assumption) ?_) | (with_reducible refine split_df (by assumption) ?_) | (with_reducible refine split_et (by assumption) ?_) | (with_reducible refine split_ef (by assumption) ?_) | (with_reducible refine split_bt (by assumption) ?_) | (with_reducible refine split_bf (by assumption) ?_) | (with_reducible refine split_nt (by assumption) ?_) | (with_reducible refine split_nf (by assumption) ?_) | (with_reducible refine split_t (by assumption) ?_) | (with_reducible refine split_f (by assumption) ?_)) | (first | (with_reducible refine split_dec (fun h => ?_) (fun h => ?_)) | (with_reducible refine split_beq (fun h => ?_) (fun h => ?_)) | (with_reducible refine split_bne (fun h => ?_) (fun h => ?_)) | (with_reducible refine split_not (fun h => ?_) (fun h => ?_)) | (with_reducible refine split_beqS (fun h => ?_) (fun h => ?_)) | (with_reducible refine split_intro (fun h => ?_) (fun h => ?_)))) <;> conv => whnf)
            have e : stepsAt c n = [addL c n, addX c n] := by unfold stepsAt; rw [hf, hw, hl, hx]; rfl
            have w1' : IntKind.i64.wrap (c.learn + ishl IntKind.i64 1 (IntKind.u64.wrap n)) = bor c.learn (shl 1 n) := by rw [hsu, wrap_id (by omega) (by omega), add_bit hk.l hn hl]
            have w2' : IntKind.i64.wrap (c.lwit + ishl IntKind.i64 1 (IntKind.u64.wrap n)) = bor c.lwit (shl 1 n) := by rw [hsu, wrap_id (by omega) (by omega), add_bit hk.x hn hx]
            (refine And.intro rfl ?_; (conv => whnf); refine And.intro (And.intro (And.intro (by kernel_rfl) (And.intro (by simp) (And.intro (small (by simp only [List.length_cons, List.length_nil]; omega) (by kernel_rfl)) (And.intro (smallM (by simp only [List.length_cons, List.length_nil]; omega)) (by intro r hr; rw [List.mem_singleton.1 hr]; rfl))))) (And.intro (by decide) rfl)) ?_; conv => whnf)
            (refine And.intro rfl ?_; (conv => whnf); refine And.intro (And.intro (And.intro (by kernel_rfl) (And.intro (by simp) (And.intro (small (by simp only [List.length_cons, List.length_nil]; omega) (by kernel_rfl)) (And.intro (smallM (by simp only [List.length_cons, List.length_nil]; omega)) (by intro r hr; rw [List.mem_singleton.1 hr]; rfl))))) (And.intro (by decide) rfl)) ?_; conv => whnf)
            refine ⟨n + 1, [(1000, 608)], ⟨by omega, by omega⟩, ?_⟩
            conv => whnf
            (refine And.intro (And.intro (by with_unfolding_all rfl) (by intro q h; cases h)) ?_; refine And.intro ?_ (And.intro ?_ ?_) <;> (conv => whnf) <;> (repeat' (first | exact True.intro | (with_reducible exact rfl) | exact (rfl : List.replicate 0 PV.bad = []) | ((with_reducible refine And.intro ?_ ?_) <;> (first | (with_reducible exact wkV_same _ rfl) | exact wkV_pt rfl rfl | exact wkV_ow rfl rfl rfl | (refine wkV_ow rfl rfl ?_) | (refine wkV_sc (congrArg (Value.int .i64) ?_)) | (refine wkV_sc (congrArg Value.bool ?_)) | exact wkV_ls rfl | ((refine wkV_cl ?_); conv => whnf) | ((refine wkV_tu ?_); conv => whnf) | ((refine wkV_ag ?_); conv => whnf) | (conv => whnf))))))
            all_goals first | exact w1 (by omega) | (simp [stepsL, e]; done) | (refine obj_eq (by kernel_rfl) ?_; simp [List.take_of_length_le, stepsL, e, w1', w2']; done) | rfl
          · ((first | (first | (with_reducible refine split_dt (by assumption) ?_) | (with_reducible refine split_df (by assumption) ?_) | (with_reducible refine split_et (by assumption) ?_) | (with_reducible refine split_ef (by assumption) ?_) | (with_reducible refine split_bt (by assumption) ?_) | (with_reducible refine split_bf (by assumption) ?_) | (with_reducible refine split_nt (by assumption) ?_) | (with_reducible refine split_nf (by assumption) ?_) | (with_reducible refine split_t (by assumption) ?_) | (with_reducible refine split_f (by assumption) ?_)) | (first | (with_reducible refine split_dec (fun h => ?_) (fun h => ?_)) | (with_reducible refine split_beq (fun h => ?_) (fun h => ?_)) | (with_reducible refine split_bne (fun h => ?_) (fun h => ?_)) | (with_reducible refine split_not (fun h => ?_) (fun h => ?_)) | (with_reducible refine split_beqS (fun h => ?_) (fun h => ?_)) | (with_reducible refine split_intro (fun h => ?_) (fun h => ?_)))) <;> conv => whnf)
            have e : stepsAt c n = [dele c n, proX c n] := by unfold stepsAt; rw [hf, hw, hl, hx]; rfl
            have ed : dele c n = ⟨c.full, c.wit, c.learn, bandn c.lwit (shl 1 n)⟩ := by unfold dele; rw [andn_0 hk.f hn hf, andn_0 hk.w hn hw, andn_0 hk.l hn hl]
            have w1' : IntKind.i64.wrap (c.lwit - ishl IntKind.i64 1 (IntKind.u64.wrap n)) = bandn c.lwit (shl 1 n) := by rw [hsu, wrap_id (by omega) (by omega), sub_bit hk.x hn hx]
            have w2' : IntKind.i64.wrap (c.wit + ishl IntKind.i64 1 (IntKind.u64.wrap n)) = bor c.wit (shl 1 n) := by rw [hsu, wrap_id (by omega) (by omega), add_bit hk.w hn hw]
            (refine And.intro rfl ?_; (conv => whnf); refine And.intro (And.intro (And.intro (by kernel_rfl) (And.intro (by simp) (And.intro (small (by simp only [List.length_cons, List.length_nil]; omega) (by kernel_rfl)) (And.intro (smallM (by simp only [List.length_cons, List.length_nil]; omega)) (by intro r hr; rw [List.mem_singleton.1 hr]; rfl))))) (And.intro (by decide) rfl)) ?_; conv => whnf)
            (refine And.intro rfl ?_; (conv => whnf); refine And.intro (And.intro (And.intro (by kernel_rfl) (And.intro (by simp) (And.intro (small (by simp only [List.length_cons, List.length_nil]; omega) (by kernel_rfl)) (And.intro (smallM (by simp only [List.length_cons, List.length_nil]; omega)) (by intro r hr; rw [List.mem_singleton.1 hr]; rfl))))) (And.intro (by decide) rfl)) ?_; conv => whnf)
            refine ⟨n + 1, [(1000, 1600)], ⟨by omega, by omega⟩, ?_⟩
            conv => whnf
            (refine And.intro (And.intro (by with_unfolding_all rfl) (by intro q h; cases h)) ?_; refine And.intro ?_ (And.intro ?_ ?_) <;> (conv => whnf) <;> (repeat' (first | exact True.intro | (with_reducible exact rfl) | exact (rfl : List.replicate 0 PV.bad = []) | ((with_reducible refine And.intro ?_ ?_) <;> (first | (with_reducible exact wkV_same _ rfl) | exact wkV_pt rfl rfl | exact wkV_ow rfl rfl rfl | (refine wkV_ow rfl rfl ?_) | (refine wkV_sc (congrArg (Value.int .i64) ?_)) | (refine wkV_sc (congrArg Value.bool ?_)) | exact wkV_ls rfl | ((refine wkV_cl ?_); conv => whnf) | ((refine wkV_tu ?_); conv => whnf) | ((refine wkV_ag ?_); conv => whnf) | (conv => whnf))))))
            all_goals first | exact w1 (by omega) | (simp [stepsL, e]; done) | (refine obj_eq (by kernel_rfl) ?_; simp [List.take_of_length_le, stepsL, e, ed, w1', w2']; done) | rfl
        · ((first | (first | (with_reducible refine split_dt (by assumption) ?_) | (with_reducible refine split_df (by assumption) ?_) | (with_reducible refine split_et (by assumption) ?_) | (with_reducible refine split_ef (by assumption) ?_) | (with_reducible refine split_bt (by assumption) ?_) | (with_reducible refine split_bf (by assumption) ?_) | (with_reducible refine split_nt (by assumption) ?_) | (with_reducible refine split_nf (by assumption) ?_) | (with_reducible refine split_t (by assumption) ?_) | (with_reducible refine split_f (by assumption) ?_)) | (first | (with_reducible refine split_dec (fun h => ?_) (fun h => ?_)) | (with_reducible refine split_beq (fun h => ?_) (fun h => ?_)) | (with_reducible refine split_bne (fun h => ?_) (fun h => ?_)) | (with_reducible refine split_not (fun h => ?_) (fun h => ?_)) | (with_reducible refine split_beqS (fun h => ?_) (fun h => ?_)) | (with_reducible refine split_intro (fun h => ?_) (fun h => ?_)))) <;> conv => whnf)
          have hx : tb c.lwit n = false := by have := hk.lx n; rw [hl] at this; simpa using this
          have e : stepsAt c n = [dele c n, proL c n] := by unfold stepsAt; rw [hf, hw, hl]; rfl
          have ed : dele c n = ⟨c.full, c.wit, bandn c.learn (shl 1 n), c.lwit⟩ := by unfold dele; rw [andn_0 hk.f hn hf, andn_0 hk.w hn hw, andn_0 hk.x hn hx]
          have w1' : IntKind.i64.wrap (c.learn - ishl IntKind.i64 1 (IntKind.u64.wrap n)) = bandn c.learn (shl 1 n) := by rw [hsu, wrap_id (by omega) (by omega), sub_bit hk.l hn hl]
          have w2' : IntKind.i64.wrap (c.full + ishl IntKind.i64 1 (IntKind.u64.wrap n)) = bor c.full (shl 1 n) := by rw [hsu, wrap_id (by omega) (by omega), add_bit hk.f hn hf]
          (refine And.intro rfl ?_; (conv => whnf); refine And.intro (And.intro (And.intro (by kernel_rfl) (And.intro (by simp) (And.intro (small (by simp only [List.length_cons, List.length_nil]; omega) (by kernel_rfl)) (And.intro (smallM (by simp only [List.length_cons, List.length_nil]; omega)) (by intro r hr; rw [List.mem_singleton.1 hr]; rfl))))) (And.intro (by decide) rfl)) ?_; conv => whnf)
          (refine And.intro rfl ?_; (conv => whnf); refine And.intro (And.intro (And.intro (by kernel_rfl) (And.intro (by simp) (And.intro (small (by simp only [List.length_cons, List.length_nil]; omega) (by kernel_rfl)) (And.intro (smallM (by simp only [List.length_cons, List.length_nil]; omega)) (by intro r hr; rw [List.mem_singleton.1 hr]; rfl))))) (And.intro (by decide) rfl)) ?_; conv => whnf)
          refine ⟨n + 1, [(1000, 1280)], ⟨by omega, by omega⟩, ?_⟩
          conv => whnf
          (refine And.intro (And.intro (by with_unfolding_all rfl) (by intro q h; cases h)) ?_; refine And.intro ?_ (And.intro ?_ ?_) <;> (conv => whnf) <;> (repeat' (first | exact True.intro | (with_reducible exact rfl) | exact (rfl : List.replicate 0 PV.bad = []) | ((with_reducible refine And.intro ?_ ?_) <;> (first | (with_reducible exact wkV_same _ rfl) | exact wkV_pt rfl rfl | exact wkV_ow rfl rfl rfl | (refine wkV_ow rfl rfl ?_) | (refine wkV_sc (congrArg (Value.int .i64) ?_)) | (refine wkV_sc (congrArg Value.bool ?_)) | exact wkV_ls rfl | ((refine wkV_cl ?_); conv => whnf) | ((refine wkV_tu ?_); conv => whnf) | ((refine wkV_ag ?_); conv => whnf) | (conv => whnf))))))
          all_goals first | exact w1 (by omega) | (simp [stepsL, e]; done) | (refine obj_eq (by kernel_rfl) ?_; simp [List.take_of_length_le, stepsL, e, ed, w1', w2']; done) | rfl
      · ((first | (first | (with_reducible refine split_dt (by assumption) ?_) | (with_reducible refine split_df (by assumption) ?_) | (with_reducible refine split_et (by assumption) ?_) | (with_reducible refine split_ef (by assumption) ?_) | (with_reducible refine split_bt (by assumption) ?_) | (with_reducible refine split_bf (by assumption) ?_) | (with_reducible refine split_nt (by assumption) ?_) | (with_reducible refine split_nf (by assumption) ?_) | (with_reducible refine split_t (by assumption) ?_) | (with_reducible refine split_f (by assumption) ?_)) | (first | (with_reducible refine split_dec (fun h => ?_) (fun h => ?_)) | (with_reducible refine split_beq (fun h => ?_) (fun h => ?_)) | (with_reducible refine split_bne (fun h => ?_) (fun h => ?_)) | (with_reducible refine split_not (fun h => ?_) (fun h => ?_)) | (with_reducible refine split_beqS (fun h => ?_) (fun h => ?_)) | (with_reducible refine split_intro (fun h => ?_) (fun h => ?_)))) <;> conv => whnf)
        have hl : tb c.learn n = false := by have := hk.wl n; rw [hw] at this; simpa using this
        have hx : tb c.lwit n = false := by have := hk.wx n; rw [hw] at this; simpa using this
        have e : stepsAt c n = [dele c n] := by unfold stepsAt; rw [hf, hw]; rfl
        have ed : dele c n = ⟨c.full, bandn c.wit (shl 1 n), c.learn, c.lwit⟩ := by unfold dele; rw [andn_0 hk.f hn hf, andn_0 hk.l hn hl, andn_0 hk.x hn hx]
        have w1' : IntKind.i64.wrap (c.wit - ishl IntKind.i64 1 (IntKind.u64.wrap n)) = bandn c.wit (shl 1 n) := by rw [hsu, wrap_id (by omega) (by omega), sub_bit hk.w hn hw]
        (refine And.intro rfl ?_; (conv => whnf); refine And.intro (And.intro (And.intro (by kernel_rfl) (And.intro (by simp) (And.intro (small (by simp only [List.length_cons, List.length_nil]; omega) (by kernel_rfl)) (And.intro (smallM (by simp only [List.length_cons, List.length_nil]; omega)) (by intro r hr; rw [List.mem_singleton.1 hr]; rfl))))) (And.intro (by decide) rfl)) ?_; conv => whnf)
        refine ⟨n + 1, [(1000, 960)], ⟨by omega, by omega⟩, ?_⟩
        conv => whnf
        (refine And.intro (And.intro (by with_unfolding_all rfl) (by intro q h; cases h)) ?_; refine And.intro ?_ (And.intro ?_ ?_) <;> (conv => whnf) <;> (repeat' (first | exact True.intro | (with_reducible exact rfl) | exact (rfl : List.replicate 0 PV.bad = []) | ((with_reducible refine And.intro ?_ ?_) <;> (first | (with_reducible exact wkV_same _ rfl) | exact wkV_pt rfl rfl | exact wkV_ow rfl rfl rfl | (refine wkV_ow rfl rfl ?_) | (refine wkV_sc (congrArg (Value.int .i64) ?_)) | (refine wkV_sc (congrArg Value.bool ?_)) | exact wkV_ls rfl | ((refine wkV_cl ?_); conv => whnf) | ((refine wkV_tu ?_); conv => whnf) | ((refine wkV_ag ?_); conv => whnf) | (conv => whnf))))))
        all_goals first | exact w1 (by omega) | (simp [stepsL, e]; done) | (refine obj_eq (by kernel_rfl) ?_; simp [List.take_of_length_le, stepsL, e, ed, w1']; done) | rfl
    · ((first | (first | (with_reducible refine split_dt (by assumption) ?_) | (with_reducible refine split_df (by assumption) ?_) | (with_reducible refine split_et (by assumption) ?_) | (with_reducible refine split_ef (by assumption) ?_) | (with_reducible refine split_bt (by assumption) ?_) | (with_reducible refine split_bf (by assumption) ?_) | (with_reducible refine split_nt (by assumption) ?_) | (with_reducible refine split_nf (by assumption) ?_) | (with_reducible refine split_t (by assumption) ?_) | (with_reducible refine split_f (by assumption) ?_)) | (first | (with_reducible refine split_dec (fun h => ?_) (fun h => ?_)) | (with_reducible refine split_beq (fun h => ?_) (fun h => ?_)) | (with_reducible refine split_bne (fun h => ?_) (fun h => ?_)) | (with_reducible refine split_not (fun h => ?_) (fun h => ?_)) | (with_reducible refine split_beqS (fun h => ?_) (fun h => ?_)) | (with_reducible refine split_intro (fun h => ?_) (fun h => ?_)))) <;> conv => whnf)
      have hw : tb c.wit n = false := by have := hk.fw n; rw [hf] at this; simpa using this
      have hl : tb c.learn n = false := by have := hk.fl n; rw [hf] at this; simpa using this
      have hx : tb c.lwit n = false := by have := hk.fx n; rw [hf] at this; simpa using this
      have e : stepsAt c n = [dele c n] := by unfold stepsAt; rw [hf]; rfl
      have ed : dele c n = ⟨bandn c.full (shl 1 n), c.wit, c.learn, c.lwit⟩ := by unfold dele; rw [andn_0 hk.w hn hw, andn_0 hk.l hn hl, andn_0 hk.x hn hx]
      have w1' : IntKind.i64.wrap (c.full - ishl IntKind.i64 1 (IntKind.u64.wrap n)) = bandn c.full (shl 1 n) := by rw [hsu, wrap_id (by omega) (by omega), sub_bit hk.f hn hf]
      (refine And.intro rfl ?_; (conv => whnf); refine And.intro (And.intro (And.intro (by kernel_rfl) (And.intro (by simp) (And.intro (small (by simp only [List.length_cons, List.length_nil]; omega) (by kernel_rfl)) (And.intro (smallM (by simp only [List.length_cons, List.length_nil]; omega)) (by intro r hr; rw [List.mem_singleton.1 hr]; rfl))))) (And.intro (by decide) rfl)) ?_; conv => whnf)
      refine ⟨n + 1, [(1000, 784)], ⟨by omega, by omega⟩, ?_⟩
      conv => whnf
      (refine And.intro (And.intro (by with_unfolding_all rfl) (by intro q h; cases h)) ?_; refine And.intro ?_ (And.intro ?_ ?_) <;> (conv => whnf) <;> (repeat' (first | exact True.intro | (with_reducible exact rfl) | exact (rfl : List.replicate 0 PV.bad = []) | ((with_reducible refine And.intro ?_ ?_) <;> (first | (with_reducible exact wkV_same _ rfl) | exact wkV_pt rfl rfl | exact wkV_ow rfl rfl rfl | (refine wkV_ow rfl rfl ?_) | (refine wkV_sc (congrArg (Value.int .i64) ?_)) | (refine wkV_sc (congrArg Value.bool ?_)) | exact wkV_ls rfl | ((refine wkV_cl ?_); conv => whnf) | ((refine wkV_tu ?_); conv => whnf) | ((refine wkV_ag ?_); conv => whnf) | (conv => whnf))))))
      all_goals first | exact w1 (by omega) | (simp [stepsL, e]; done) | (refine obj_eq (by kernel_rfl) ?_; simp [List.take_of_length_le, stepsL, e, ed, w1']; done) | rfl
  · have : n = 7 := by omega
    subst this
    exact exit_own [(0, 1000)] rfl ⟨rfl, True.intro⟩ (wkV_ow rfl rfl (by simp))

/-- What is near, by the reference's list. -/
noncomputable def nearL (a b : Conf) : Bool := confB a && (confB b && ((stepsL a 7).any (fun x => decide (x = b)) || decide (a = b)))

theorem c_rNear (a b : Conf) : Ctr Tryz.prog 54 [.ag a.enc, .ag b.enc] (bv (nearL a b)) [] := by
  refine spec_of_body mixed Tryz.func54 rfl (by kernel_rfl) (by kernel_rfl) ?_; conv => whnf
  ((try ((refine Exists.intro none ?_); (conv => whnf))); first | ((with_reducible refine call_by (c_rConf a) ?_); conv => whnf))
  ((first | (with_reducible refine split_dec (fun h => ?_) (fun h => ?_)) | (with_reducible refine split_beq (fun h => ?_) (fun h => ?_)) | (with_reducible refine split_bne (fun h => ?_) (fun h => ?_)) | (with_reducible refine split_not (fun h => ?_) (fun h => ?_)) | (with_reducible refine split_beqS (fun h => ?_) (fun h => ?_)) | (with_reducible refine split_intro (fun h => ?_) (fun h => ?_))) <;> conv => whnf)
  · exact exit_plain rfl (by simp [nearL, h])
  have ha := h
  ((try ((refine Exists.intro none ?_); (conv => whnf))); first | ((with_reducible refine call_by (c_rConf b) ?_); conv => whnf))
  ((first | (with_reducible refine split_dec (fun h => ?_) (fun h => ?_)) | (with_reducible refine split_beq (fun h => ?_) (fun h => ?_)) | (with_reducible refine split_bne (fun h => ?_) (fun h => ?_)) | (with_reducible refine split_not (fun h => ?_) (fun h => ?_)) | (with_reducible refine split_beqS (fun h => ?_) (fun h => ?_)) | (with_reducible refine split_intro (fun h => ?_) (fun h => ?_))) <;> conv => whnf)
  · exact exit_plain rfl (by simp [nearL, ha, h])
  have hb := h
  have hA := (confB_iff a).1 ha
  ((try ((refine Exists.intro none ?_); (conv => whnf))); first | ((with_reducible refine call_by (c_rSteps a hA) ?_); conv => whnf))
  (refine Exists.intro _ (And.intro rfl (And.intro (by intro q hq; first | (cases hq; done) | (simp only [List.mem_cons, List.not_mem_nil, or_false] at hq; rcases hq with rfl | rfl <;> (simp only [List.length_cons, List.length_nil]; omega)) | (simp only [List.mem_cons, List.not_mem_nil, or_false] at hq; subst hq; simp only [List.length_cons, List.length_nil]; omega)) (And.intro (by intro i hi; simp only [List.length_cons, List.length_nil, Nat.lt_one_iff, Nat.zero_add] at hi; subst hi; rfl) ?_))); conv => whnf)
  have hlen : (stepsL a 7).length ≤ 14 := stepsL_len a 7
  refine tri_forB mixed (by kernel_rfl) (fun i : Nat => i ≤ (stepsL a 7).length ∧ ∀ j (hj : j < (stepsL a 7).length), j < i → decide ((stepsL a 7)[j]'hj = b) = false) (fun i => [(6, iv i)]) (fun _ => [(2, a.enc), (3, b.enc)]) [(256, 256)] (fun i => (stepsL a 7).length - i) 0 ⟨Nat.zero_le _, fun j _ h => absurd h (Nat.not_lt_zero _)⟩ ?_ ?_
  · conv => whnf
    (refine And.intro (And.intro (by with_unfolding_all rfl) (by intro q h; cases h)) ?_; refine And.intro ?_ (And.intro ?_ ?_) <;> (conv => whnf) <;> (repeat' (first | exact True.intro | (with_reducible exact rfl) | exact (rfl : List.replicate 0 PV.bad = []) | ((with_reducible refine And.intro ?_ ?_) <;> (first | (with_reducible exact wkV_same _ rfl) | exact wkV_pt rfl rfl | exact wkV_ow rfl rfl rfl | (refine wkV_ow rfl rfl ?_) | (refine wkV_sc (congrArg (Value.int .i64) ?_)) | (refine wkV_sc (congrArg Value.bool ?_)) | exact wkV_ls rfl | ((refine wkV_cl ?_); conv => whnf) | ((refine wkV_tu ?_); conv => whnf) | ((refine wkV_ag ?_); conv => whnf) | (conv => whnf))))))
    all_goals rfl
  rintro i ⟨hi, hp⟩
  conv => whnf
  ((first | (with_reducible refine split_dec (fun h => ?_) (fun h => ?_)) | (with_reducible refine split_beq (fun h => ?_) (fun h => ?_)) | (with_reducible refine split_bne (fun h => ?_) (fun h => ?_)) | (with_reducible refine split_not (fun h => ?_) (fun h => ?_)) | (with_reducible refine split_beqS (fun h => ?_) (fun h => ?_)) | (with_reducible refine split_intro (fun h => ?_) (fun h => ?_))) <;> conv => whnf)
  · simp only [List.length_map] at h
    have hlt : i < (stepsL a 7).length := by omega
    refine ⟨by simp only [List.length_map]; omega, ?_⟩
    conv => whnf
    refine ⟨_, by rw [Nat.zero_add]; exact row_at hlt, ?_⟩
    conv => whnf
    ((try ((refine Exists.intro none ?_); (conv => whnf))); first | ((with_reducible refine call_by (c_kConf ((stepsL a 7)[i]'hlt) b) ?_); conv => whnf))
    ((first | (with_reducible refine split_dec (fun h => ?_) (fun h => ?_)) | (with_reducible refine split_beq (fun h => ?_) (fun h => ?_)) | (with_reducible refine split_bne (fun h => ?_) (fun h => ?_)) | (with_reducible refine split_not (fun h => ?_) (fun h => ?_)) | (with_reducible refine split_beqS (fun h => ?_) (fun h => ?_)) | (with_reducible refine split_intro (fun h => ?_) (fun h => ?_))) <;> conv => whnf)
    · refine exit_plain rfl ?_
      have := any_at (p := fun x : Conf => decide (x = b)) hlt (by simpa using h)
      simp [nearL, ha, hb, this]
    · refine ⟨i + 1, ⟨⟨by omega, ?_⟩, by omega⟩, ?_⟩
      · intro j hj hji
        by_cases e : j = i
        · subst e; simpa using h
        · exact hp j hj (by omega)
      · conv => whnf
        (refine And.intro (And.intro (by with_unfolding_all rfl) (by intro q h; cases h)) ?_; refine And.intro ?_ (And.intro ?_ ?_) <;> (conv => whnf) <;> (repeat' (first | exact True.intro | (with_reducible exact rfl) | exact (rfl : List.replicate 0 PV.bad = []) | ((with_reducible refine And.intro ?_ ?_) <;> (first | (with_reducible exact wkV_same _ rfl) | exact wkV_pt rfl rfl | exact wkV_ow rfl rfl rfl | (refine wkV_ow rfl rfl ?_) | (refine wkV_sc (congrArg (Value.int .i64) ?_)) | (refine wkV_sc (congrArg Value.bool ?_)) | exact wkV_ls rfl | ((refine wkV_cl ?_); conv => whnf) | ((refine wkV_tu ?_); conv => whnf) | ((refine wkV_ag ?_); conv => whnf) | (conv => whnf))))))
        all_goals first | exact w1 (by omega) | rfl
  · simp only [List.length_map] at h
    have : i = (stepsL a 7).length := by omega
    subst this
    ((try ((refine Exists.intro none ?_); (conv => whnf))); first | ((with_reducible refine call_by (c_kConf a b) ?_); conv => whnf))
    refine exit_plain rfl ?_
    have := any_none (p := fun x : Conf => decide (x = b)) fun j hj => hp j hj hj
    simp only [nearL, ha, hb, this, Bool.true_and, Bool.false_or]
end Go.Proofs
