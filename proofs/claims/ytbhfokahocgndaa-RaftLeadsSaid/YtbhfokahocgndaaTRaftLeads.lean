import Derived.Test.YtbhfokahocgndaaN3
import Derived.Test.YtbhfokahocgndaaK4
import Derived.Test.YtbhfokahocgndaaC13
set_option linter.unusedSimpArgs false
set_option linter.unusedVariables false
namespace Go.Proofs
open Go.Pv
set_option maxRecDepth 100000

theorem add_facts (r : Rft) (c : VCall) (hf : Fit r) : (addR r (ec r c)).hard.log = r.hard.log ++ [ec r c] ∧ (lastI (logR r (ec r c)) = lastI (addR r (ec r c)).hard ∧ lastI (logR r (ec r c)) = lastI r.hard + 1) ∧ lastT (addR r (ec r c)).hard = r.hard.term := by
  have hb := hf.base
  have hl := hf.log
  refine ⟨rfl, ⟨rfl, ?_⟩, ?_⟩
  · have e : (logR r (ec r c)).log.length = r.hard.log.length + 1 := by rw [List.length_append]; rfl
    have eb : (logR r (ec r c)).base = r.hard.base := rfl
    rw [lastI_sum (h := logR r (ec r c)) hb.1 (by rw [e, eb]; omega), lastI_sum (h := r.hard) hb.1 (by omega), e, eb]
    omega
  · unfold lastT
    rw [show (addR r (ec r c)).hard.log = r.hard.log ++ [ec r c] from rfl, List.getLast?_append]
    rfl
set_option maxHeartbeats 8000000 in
theorem l_RaftLeads (r : Rft) (m : Mg) (c : VCall) (hm : m.ok) : Ctr Try.prog 6 [.ag r.enc, .ag m.enc, .ag c.enc] (bv true) [] := by
  have kr := c_Heavy15 r
  have km := c_HeavyMsg m hm
  have kc := c_HeavyCmd c.cmd
  cases hr : heavyR r with
  | true =>
    rw [hr] at kr
    refine spec_of_body mixed Try.func6 rfl (by kernel_rfl) (by kernel_rfl) ?_; conv => whnf
    ((try ((refine Exists.intro none ?_); (conv => whnf))); first | ((with_reducible refine call_by (kr) ?_); conv => whnf))
    exact exit_plain rfl rfl
  | false =>
  rw [hr] at kr
  cases hv : heavyM m with
  | true =>
    rw [hv] at km
    refine spec_of_body mixed Try.func6 rfl (by kernel_rfl) (by kernel_rfl) ?_; conv => whnf
    ((try ((refine Exists.intro none ?_); (conv => whnf))); first | ((with_reducible refine call_by (kr) ?_); conv => whnf))
    ((try ((refine Exists.intro none ?_); (conv => whnf))); first | ((with_reducible refine call_by (km) ?_); conv => whnf))
    exact exit_plain rfl rfl
  | false =>
  rw [hv] at km
  cases hcm : heavyCmd c.cmd with
  | true =>
    rw [hcm] at kc
    refine spec_of_body mixed Try.func6 rfl (by kernel_rfl) (by kernel_rfl) ?_; conv => whnf
    ((try ((refine Exists.intro none ?_); (conv => whnf))); first | ((with_reducible refine call_by (kr) ?_); conv => whnf))
    ((try ((refine Exists.intro none ?_); (conv => whnf))); first | ((with_reducible refine call_by (km) ?_); conv => whnf))
    ((try ((refine Exists.intro none ?_); (conv => whnf))); first | ((with_reducible refine call_by (kc) ?_); conv => whnf))
    exact exit_plain rfl rfl
  | false =>
  rw [hcm] at kc
  obtain ⟨a1, a2, a3⟩ := heavyR_len hr
  by_cases hro : r.role = 3
  · by_cases hvo : r.hard.vote = r.id
    · cases outc r m hr hv with
      | bad E hE k =>
        refine spec_of_body mixed Try.func6 rfl (by kernel_rfl) (by kernel_rfl) ?_; conv => whnf
        ((try ((refine Exists.intro none ?_); (conv => whnf))); first | ((with_reducible refine call_by (kr) ?_); conv => whnf))
        ((try ((refine Exists.intro none ?_); (conv => whnf))); first | ((with_reducible refine call_by (km) ?_); conv => whnf))
        ((try ((refine Exists.intro none ?_); (conv => whnf))); first | ((with_reducible refine call_by (kc) ?_); conv => whnf))
        (first | (with_reducible refine split_dt (by first | assumption | omega) ?_) | (with_reducible refine split_df (by first | assumption | omega) ?_) | (with_reducible refine split_et (by first | assumption | omega) ?_) | (with_reducible refine split_ef (by first | assumption | omega) ?_) | (with_reducible refine split_bt (by first | assumption | omega) ?_) | (with_reducible refine split_bf (by first | assumption | omega) ?_) | (with_reducible refine split_nt (by assumption) ?_) | (with_reducible refine split_nf (by assumption) ?_) | (with_reducible refine split_t (by assumption) ?_) | (with_reducible refine split_f (by assumption) ?_))
        conv => whnf
        (first | (with_reducible refine split_dt (by first | assumption | omega) ?_) | (with_reducible refine split_df (by first | assumption | omega) ?_) | (with_reducible refine split_et (by first | assumption | omega) ?_) | (with_reducible refine split_ef (by first | assumption | omega) ?_) | (with_reducible refine split_bt (by first | assumption | omega) ?_) | (with_reducible refine split_bf (by first | assumption | omega) ?_) | (with_reducible refine split_nt (by assumption) ?_) | (with_reducible refine split_nf (by assumption) ?_) | (with_reducible refine split_t (by assumption) ?_) | (with_reducible refine split_f (by assumption) ?_))
        conv => whnf
        ((try ((refine Exists.intro none ?_); (conv => whnf))); first | ((with_reducible refine call_by (k) ?_); conv => whnf))
        (first | (with_reducible refine split_dt (by first | assumption | omega) ?_) | (with_reducible refine split_df (by first | assumption | omega) ?_) | (with_reducible refine split_et (by first | assumption | omega) ?_) | (with_reducible refine split_ef (by first | assumption | omega) ?_) | (with_reducible refine split_bt (by first | assumption | omega) ?_) | (with_reducible refine split_bf (by first | assumption | omega) ?_) | (with_reducible refine split_nt (by assumption) ?_) | (with_reducible refine split_nf (by assumption) ?_) | (with_reducible refine split_t (by assumption) ?_) | (with_reducible refine split_f (by assumption) ?_))
        conv => whnf
        cases hrb : rightB r with
        | false =>
          have kp := c_Prop_wrong r c (smallM (by omega)) (smallM (by omega)) hrb
          ((try ((refine Exists.intro none ?_); (conv => whnf))); first | ((with_reducible refine call_by (kp) ?_); conv => whnf))
          ((try ((refine Exists.intro none ?_); (conv => whnf))); first | ((with_reducible refine call_by (c_wakes18) ?_); conv => whnf))
          exact exit_plain rfl rfl
        | true =>
        have hf : Fit r := (rgt_of hrb).fit (by omega)
        by_cases hpe : propE r c = 0
        · have kp := c_Prop_ok r c hf hrb hpe
          obtain ⟨q1, ⟨q2, q4⟩, q3⟩ := add_facts r c hf
          have hb := hf.base
          have hla : lastI r.hard = r.hard.base + r.hard.log.length := lastI_sum (h := r.hard) hb.1 (by omega)
          have q5 : lastI (logR r (ec r c)) = IntKind.i64.wrap (lastI r.hard + 1) := by rw [q4]; exact (wrap_id (by omega) (by omega)).symm
          clear q4
          generalize addR r (ec r c) = S at *
          generalize lastI (logR r (ec r c)) = n at *
          have k1 := c_rLast S.hard (smallM (by rw [q1, List.length_append]; simp; omega))
          have k2 := c_rLast r.hard (smallM (by omega))
          ((try ((refine Exists.intro none ?_); (conv => whnf))); first | ((with_reducible refine call_by (kp) ?_); conv => whnf))
          (refine Exists.intro _ (And.intro rfl (And.intro (by intro q _; simp only [List.length_nil]; omega) (And.intro (by intro i hi; exact absurd hi (Nat.not_lt_zero i)) ?_))); conv => whnf)
          ((try ((refine Exists.intro none ?_); (conv => whnf))); first | ((with_reducible refine call_by (k1) ?_); conv => whnf))
          ((try ((refine Exists.intro none ?_); (conv => whnf))); first | ((with_reducible refine call_by (k2) ?_); conv => whnf))
          have hSl : S.hard.log.length = r.hard.log.length + 1 := by rw [q1, List.length_append]; rfl
          ((first | (with_reducible refine split_dec (fun h => ?_) (fun h => ?_)) | (with_reducible refine split_beq (fun h => ?_) (fun h => ?_)) | (with_reducible refine split_bne (fun h => ?_) (fun h => ?_)) | (with_reducible refine split_not (fun h => ?_) (fun h => ?_)) | (with_reducible refine split_beqS (fun h => ?_) (fun h => ?_)) | (with_reducible refine split_intro (fun h => ?_) (fun h => ?_))) <;> conv => whnf)
          · simp only [List.length_map] at h
            exact absurd h (by omega)
          · clear h
            (first | (with_reducible refine split_dt (by first | assumption | omega) ?_) | (with_reducible refine split_df (by first | assumption | omega) ?_) | (with_reducible refine split_et (by first | assumption | omega) ?_) | (with_reducible refine split_ef (by first | assumption | omega) ?_) | (with_reducible refine split_bt (by first | assumption | omega) ?_) | (with_reducible refine split_bf (by first | assumption | omega) ?_) | (with_reducible refine split_nt (by assumption) ?_) | (with_reducible refine split_nf (by assumption) ?_) | (with_reducible refine split_t (by assumption) ?_) | (with_reducible refine split_f (by assumption) ?_))
            conv => whnf
            (first | (with_reducible refine split_dt (by first | assumption | omega) ?_) | (with_reducible refine split_df (by first | assumption | omega) ?_) | (with_reducible refine split_et (by first | assumption | omega) ?_) | (with_reducible refine split_ef (by first | assumption | omega) ?_) | (with_reducible refine split_bt (by first | assumption | omega) ?_) | (with_reducible refine split_bf (by first | assumption | omega) ?_) | (with_reducible refine split_nt (by assumption) ?_) | (with_reducible refine split_nf (by assumption) ?_) | (with_reducible refine split_t (by assumption) ?_) | (with_reducible refine split_f (by assumption) ?_))
            conv => whnf
            (first | (with_reducible refine split_dt (by first | assumption | omega) ?_) | (with_reducible refine split_df (by first | assumption | omega) ?_) | (with_reducible refine split_et (by first | assumption | omega) ?_) | (with_reducible refine split_ef (by first | assumption | omega) ?_) | (with_reducible refine split_bt (by first | assumption | omega) ?_) | (with_reducible refine split_bf (by first | assumption | omega) ?_) | (with_reducible refine split_nt (by assumption) ?_) | (with_reducible refine split_nf (by assumption) ?_) | (with_reducible refine split_t (by assumption) ?_) | (with_reducible refine split_f (by assumption) ?_))
            conv => whnf
            have ew6 : IntKind.i64.wrap (((S.hard.log.map Ent.enc).length : Int) - 1) = ((r.hard.log.length : Nat) : Int) := by
              rw [List.length_map, hSl]
              rw [show (((r.hard.log.length + 1 : Nat)) : Int) - 1 = ((r.hard.log.length : Nat) : Int) by omega]
              exact wrap_id (by omega) (by omega)
            rw [ew6]
            refine ⟨⟨by omega, by omega, by rw [List.length_map]; omega⟩, ?_⟩
            conv => whnf
            have el : (r.hard.log.map Ent.enc).length = r.hard.log.length := List.length_map ..
            have ks := s_Entries r.hard.log (smallM (by omega))
            refine Exists.intro none ?_
            conv => whnf
            refine call_eq ks ?_ ?_
            · rw [q1, Int.toNat_natCast, List.map_append, ← el, List.take_left]; rfl
            · conv => whnf
              have hrow : (S.hard.log.map Ent.enc)[(((r.hard.log.length : Nat) : Int)).toNat]? = some (ec r c).enc := by
                rw [q1, Int.toNat_natCast, List.map_append, ← el, List.getElem?_append_right (Nat.le_refl _), Nat.sub_self]; rfl
              rw [ew6]
              refine ⟨by omega, _, hrow, ?_⟩
              conv => whnf
              have kcc := s_Call c
              ((try ((refine Exists.intro none ?_); (conv => whnf))); first | ((with_reducible refine call_by (kcc) ?_); conv => whnf))
              ((try ((refine Exists.intro none ?_); (conv => whnf))); first | ((with_reducible refine call_by (c_wakes18) ?_); conv => whnf))
              exact exit_plain rfl rfl
        · have kp := c_Prop_err r c hf hrb hpe
          generalize propE r c = E2 at *
          ((try ((refine Exists.intro none ?_); (conv => whnf))); first | ((with_reducible refine call_by (kp) ?_); conv => whnf))
          ((first | (with_reducible refine split_dec (fun h => ?_) (fun h => ?_)) | (with_reducible refine split_beq (fun h => ?_) (fun h => ?_)) | (with_reducible refine split_bne (fun h => ?_) (fun h => ?_)) | (with_reducible refine split_not (fun h => ?_) (fun h => ?_)) | (with_reducible refine split_beqS (fun h => ?_) (fun h => ?_)) | (with_reducible refine split_intro (fun h => ?_) (fun h => ?_))) <;> conv => whnf)
          · ((try ((refine Exists.intro none ?_); (conv => whnf))); first | ((with_reducible refine call_by (c_wakes18) ?_); conv => whnf))
            exact exit_plain rfl rfl
          · exact absurd (by first | exact h | (simpa using h)) hpe
      | ok R L k g t hn7 hM _ =>
        have gl := g.led hro hvo
        by_cases ht : m.term ≤ r.hard.term
        · obtain ⟨e1, e2⟩ := gl ht
          have kh : Ctr Try.prog 23 [.ag R.hard.enc, .ag r.hard.enc] (bv true) [] := by rw [e1]; exact s_Hard r.hard (smallM (by omega)) (smallM (by omega))
          clear gl g t e1
          refine spec_of_body mixed Try.func6 rfl (by kernel_rfl) (by kernel_rfl) ?_; conv => whnf
          ((try ((refine Exists.intro none ?_); (conv => whnf))); first | ((with_reducible refine call_by (kr) ?_); conv => whnf))
          ((try ((refine Exists.intro none ?_); (conv => whnf))); first | ((with_reducible refine call_by (km) ?_); conv => whnf))
          ((try ((refine Exists.intro none ?_); (conv => whnf))); first | ((with_reducible refine call_by (kc) ?_); conv => whnf))
          (first | (with_reducible refine split_dt (by first | assumption | omega) ?_) | (with_reducible refine split_df (by first | assumption | omega) ?_) | (with_reducible refine split_et (by first | assumption | omega) ?_) | (with_reducible refine split_ef (by first | assumption | omega) ?_) | (with_reducible refine split_bt (by first | assumption | omega) ?_) | (with_reducible refine split_bf (by first | assumption | omega) ?_) | (with_reducible refine split_nt (by assumption) ?_) | (with_reducible refine split_nf (by assumption) ?_) | (with_reducible refine split_t (by assumption) ?_) | (with_reducible refine split_f (by assumption) ?_))
          conv => whnf
          (first | (with_reducible refine split_dt (by first | assumption | omega) ?_) | (with_reducible refine split_df (by first | assumption | omega) ?_) | (with_reducible refine split_et (by first | assumption | omega) ?_) | (with_reducible refine split_ef (by first | assumption | omega) ?_) | (with_reducible refine split_bt (by first | assumption | omega) ?_) | (with_reducible refine split_bf (by first | assumption | omega) ?_) | (with_reducible refine split_nt (by assumption) ?_) | (with_reducible refine split_nf (by assumption) ?_) | (with_reducible refine split_t (by assumption) ?_) | (with_reducible refine split_f (by assumption) ?_))
          conv => whnf
          ((try ((refine Exists.intro none ?_); (conv => whnf))); first | ((with_reducible refine call_by (k) ?_); conv => whnf))
          (refine Exists.intro _ (And.intro rfl (And.intro (by intro q _; simp only [List.length_nil]; omega) (And.intro (by intro i hi; exact absurd hi (Nat.not_lt_zero i)) ?_))); conv => whnf)
          (first | (with_reducible refine split_dt (by first | assumption | omega) ?_) | (with_reducible refine split_df (by first | assumption | omega) ?_) | (with_reducible refine split_et (by first | assumption | omega) ?_) | (with_reducible refine split_ef (by first | assumption | omega) ?_) | (with_reducible refine split_bt (by first | assumption | omega) ?_) | (with_reducible refine split_bf (by first | assumption | omega) ?_) | (with_reducible refine split_nt (by assumption) ?_) | (with_reducible refine split_nf (by assumption) ?_) | (with_reducible refine split_t (by assumption) ?_) | (with_reducible refine split_f (by assumption) ?_))
          conv => whnf
          ((try ((refine Exists.intro none ?_); (conv => whnf))); first | ((with_reducible refine call_by (kh) ?_); conv => whnf))
          (first | (with_reducible refine split_dt (by first | assumption | omega) ?_) | (with_reducible refine split_df (by first | assumption | omega) ?_) | (with_reducible refine split_et (by first | assumption | omega) ?_) | (with_reducible refine split_ef (by first | assumption | omega) ?_) | (with_reducible refine split_bt (by first | assumption | omega) ?_) | (with_reducible refine split_bf (by first | assumption | omega) ?_) | (with_reducible refine split_nt (by assumption) ?_) | (with_reducible refine split_nf (by assumption) ?_) | (with_reducible refine split_t (by assumption) ?_) | (with_reducible refine split_f (by assumption) ?_))
          conv => whnf
          cases hrb : rightB r with
          | false =>
            have kp := c_Prop_wrong r c (smallM (by omega)) (smallM (by omega)) hrb
            ((try ((refine Exists.intro none ?_); (conv => whnf))); first | ((with_reducible refine call_by (kp) ?_); conv => whnf))
            ((try ((refine Exists.intro none ?_); (conv => whnf))); first | ((with_reducible refine call_by (c_wakes18) ?_); conv => whnf))
            exact exit_plain rfl rfl
          | true =>
          have hf : Fit r := (rgt_of hrb).fit (by omega)
          by_cases hpe : propE r c = 0
          · have kp := c_Prop_ok r c hf hrb hpe
            obtain ⟨q1, ⟨q2, q4⟩, q3⟩ := add_facts r c hf
            have hb := hf.base
            have hla : lastI r.hard = r.hard.base + r.hard.log.length := lastI_sum (h := r.hard) hb.1 (by omega)
            have q5 : lastI (logR r (ec r c)) = IntKind.i64.wrap (lastI r.hard + 1) := by rw [q4]; exact (wrap_id (by omega) (by omega)).symm
            clear q4
            generalize addR r (ec r c) = S at *
            generalize lastI (logR r (ec r c)) = n at *
            have k1 := c_rLast S.hard (smallM (by rw [q1, List.length_append]; simp; omega))
            have k2 := c_rLast r.hard (smallM (by omega))
            ((try ((refine Exists.intro none ?_); (conv => whnf))); first | ((with_reducible refine call_by (kp) ?_); conv => whnf))
            (refine Exists.intro _ (And.intro rfl (And.intro (by intro q _; simp only [List.length_nil]; omega) (And.intro (by intro i hi; exact absurd hi (Nat.not_lt_zero i)) ?_))); conv => whnf)
            ((try ((refine Exists.intro none ?_); (conv => whnf))); first | ((with_reducible refine call_by (k1) ?_); conv => whnf))
            ((try ((refine Exists.intro none ?_); (conv => whnf))); first | ((with_reducible refine call_by (k2) ?_); conv => whnf))
            have hSl : S.hard.log.length = r.hard.log.length + 1 := by rw [q1, List.length_append]; rfl
            ((first | (with_reducible refine split_dec (fun h => ?_) (fun h => ?_)) | (with_reducible refine split_beq (fun h => ?_) (fun h => ?_)) | (with_reducible refine split_bne (fun h => ?_) (fun h => ?_)) | (with_reducible refine split_not (fun h => ?_) (fun h => ?_)) | (with_reducible refine split_beqS (fun h => ?_) (fun h => ?_)) | (with_reducible refine split_intro (fun h => ?_) (fun h => ?_))) <;> conv => whnf)
            · simp only [List.length_map] at h
              exact absurd h (by omega)
            · clear h
              (first | (with_reducible refine split_dt (by first | assumption | omega) ?_) | (with_reducible refine split_df (by first | assumption | omega) ?_) | (with_reducible refine split_et (by first | assumption | omega) ?_) | (with_reducible refine split_ef (by first | assumption | omega) ?_) | (with_reducible refine split_bt (by first | assumption | omega) ?_) | (with_reducible refine split_bf (by first | assumption | omega) ?_) | (with_reducible refine split_nt (by assumption) ?_) | (with_reducible refine split_nf (by assumption) ?_) | (with_reducible refine split_t (by assumption) ?_) | (with_reducible refine split_f (by assumption) ?_))
              conv => whnf
              (first | (with_reducible refine split_dt (by first | assumption | omega) ?_) | (with_reducible refine split_df (by first | assumption | omega) ?_) | (with_reducible refine split_et (by first | assumption | omega) ?_) | (with_reducible refine split_ef (by first | assumption | omega) ?_) | (with_reducible refine split_bt (by first | assumption | omega) ?_) | (with_reducible refine split_bf (by first | assumption | omega) ?_) | (with_reducible refine split_nt (by assumption) ?_) | (with_reducible refine split_nf (by assumption) ?_) | (with_reducible refine split_t (by assumption) ?_) | (with_reducible refine split_f (by assumption) ?_))
              conv => whnf
              (first | (with_reducible refine split_dt (by first | assumption | omega) ?_) | (with_reducible refine split_df (by first | assumption | omega) ?_) | (with_reducible refine split_et (by first | assumption | omega) ?_) | (with_reducible refine split_ef (by first | assumption | omega) ?_) | (with_reducible refine split_bt (by first | assumption | omega) ?_) | (with_reducible refine split_bf (by first | assumption | omega) ?_) | (with_reducible refine split_nt (by assumption) ?_) | (with_reducible refine split_nf (by assumption) ?_) | (with_reducible refine split_t (by assumption) ?_) | (with_reducible refine split_f (by assumption) ?_))
              conv => whnf
              have ew6 : IntKind.i64.wrap (((S.hard.log.map Ent.enc).length : Int) - 1) = ((r.hard.log.length : Nat) : Int) := by
                rw [List.length_map, hSl]
                rw [show (((r.hard.log.length + 1 : Nat)) : Int) - 1 = ((r.hard.log.length : Nat) : Int) by omega]
                exact wrap_id (by omega) (by omega)
              rw [ew6]
              refine ⟨⟨by omega, by omega, by rw [List.length_map]; omega⟩, ?_⟩
              conv => whnf
              have el : (r.hard.log.map Ent.enc).length = r.hard.log.length := List.length_map ..
              have ks := s_Entries r.hard.log (smallM (by omega))
              refine Exists.intro none ?_
              conv => whnf
              refine call_eq ks ?_ ?_
              · rw [q1, Int.toNat_natCast, List.map_append, ← el, List.take_left]; rfl
              · conv => whnf
                have hrow : (S.hard.log.map Ent.enc)[(((r.hard.log.length : Nat) : Int)).toNat]? = some (ec r c).enc := by
                  rw [q1, Int.toNat_natCast, List.map_append, ← el, List.getElem?_append_right (Nat.le_refl _), Nat.sub_self]; rfl
                rw [ew6]
                refine ⟨by omega, _, hrow, ?_⟩
                conv => whnf
                have kcc := s_Call c
                ((try ((refine Exists.intro none ?_); (conv => whnf))); first | ((with_reducible refine call_by (kcc) ?_); conv => whnf))
                ((try ((refine Exists.intro none ?_); (conv => whnf))); first | ((with_reducible refine call_by (c_wakes18) ?_); conv => whnf))
                exact exit_plain rfl rfl
          · have kp := c_Prop_err r c hf hrb hpe
            generalize propE r c = E2 at *
            ((try ((refine Exists.intro none ?_); (conv => whnf))); first | ((with_reducible refine call_by (kp) ?_); conv => whnf))
            ((first | (with_reducible refine split_dec (fun h => ?_) (fun h => ?_)) | (with_reducible refine split_beq (fun h => ?_) (fun h => ?_)) | (with_reducible refine split_bne (fun h => ?_) (fun h => ?_)) | (with_reducible refine split_not (fun h => ?_) (fun h => ?_)) | (with_reducible refine split_beqS (fun h => ?_) (fun h => ?_)) | (with_reducible refine split_intro (fun h => ?_) (fun h => ?_))) <;> conv => whnf)
            · ((try ((refine Exists.intro none ?_); (conv => whnf))); first | ((with_reducible refine call_by (c_wakes18) ?_); conv => whnf))
              exact exit_plain rfl rfl
            · exact absurd (by first | exact h | (simpa using h)) hpe
        · clear gl g t
          refine spec_of_body mixed Try.func6 rfl (by kernel_rfl) (by kernel_rfl) ?_; conv => whnf
          ((try ((refine Exists.intro none ?_); (conv => whnf))); first | ((with_reducible refine call_by (kr) ?_); conv => whnf))
          ((try ((refine Exists.intro none ?_); (conv => whnf))); first | ((with_reducible refine call_by (km) ?_); conv => whnf))
          ((try ((refine Exists.intro none ?_); (conv => whnf))); first | ((with_reducible refine call_by (kc) ?_); conv => whnf))
          (first | (with_reducible refine split_dt (by first | assumption | omega) ?_) | (with_reducible refine split_df (by first | assumption | omega) ?_) | (with_reducible refine split_et (by first | assumption | omega) ?_) | (with_reducible refine split_ef (by first | assumption | omega) ?_) | (with_reducible refine split_bt (by first | assumption | omega) ?_) | (with_reducible refine split_bf (by first | assumption | omega) ?_) | (with_reducible refine split_nt (by assumption) ?_) | (with_reducible refine split_nf (by assumption) ?_) | (with_reducible refine split_t (by assumption) ?_) | (with_reducible refine split_f (by assumption) ?_))
          conv => whnf
          (first | (with_reducible refine split_dt (by first | assumption | omega) ?_) | (with_reducible refine split_df (by first | assumption | omega) ?_) | (with_reducible refine split_et (by first | assumption | omega) ?_) | (with_reducible refine split_ef (by first | assumption | omega) ?_) | (with_reducible refine split_bt (by first | assumption | omega) ?_) | (with_reducible refine split_bf (by first | assumption | omega) ?_) | (with_reducible refine split_nt (by assumption) ?_) | (with_reducible refine split_nf (by assumption) ?_) | (with_reducible refine split_t (by assumption) ?_) | (with_reducible refine split_f (by assumption) ?_))
          conv => whnf
          ((try ((refine Exists.intro none ?_); (conv => whnf))); first | ((with_reducible refine call_by (k) ?_); conv => whnf))
          (refine Exists.intro _ (And.intro rfl (And.intro (by intro q _; simp only [List.length_nil]; omega) (And.intro (by intro i hi; exact absurd hi (Nat.not_lt_zero i)) ?_))); conv => whnf)
          (first | (with_reducible refine split_dt (by first | assumption | omega) ?_) | (with_reducible refine split_df (by first | assumption | omega) ?_) | (with_reducible refine split_et (by first | assumption | omega) ?_) | (with_reducible refine split_ef (by first | assumption | omega) ?_) | (with_reducible refine split_bt (by first | assumption | omega) ?_) | (with_reducible refine split_bf (by first | assumption | omega) ?_) | (with_reducible refine split_nt (by assumption) ?_) | (with_reducible refine split_nf (by assumption) ?_) | (with_reducible refine split_t (by assumption) ?_) | (with_reducible refine split_f (by assumption) ?_))
          conv => whnf
          cases hrb : rightB r with
          | false =>
            have kp := c_Prop_wrong r c (smallM (by omega)) (smallM (by omega)) hrb
            ((try ((refine Exists.intro none ?_); (conv => whnf))); first | ((with_reducible refine call_by (kp) ?_); conv => whnf))
            ((try ((refine Exists.intro none ?_); (conv => whnf))); first | ((with_reducible refine call_by (c_wakes18) ?_); conv => whnf))
            exact exit_plain rfl rfl
          | true =>
          have hf : Fit r := (rgt_of hrb).fit (by omega)
          by_cases hpe : propE r c = 0
          · have kp := c_Prop_ok r c hf hrb hpe
            obtain ⟨q1, ⟨q2, q4⟩, q3⟩ := add_facts r c hf
            have hb := hf.base
            have hla : lastI r.hard = r.hard.base + r.hard.log.length := lastI_sum (h := r.hard) hb.1 (by omega)
            have q5 : lastI (logR r (ec r c)) = IntKind.i64.wrap (lastI r.hard + 1) := by rw [q4]; exact (wrap_id (by omega) (by omega)).symm
            clear q4
            generalize addR r (ec r c) = S at *
            generalize lastI (logR r (ec r c)) = n at *
            have k1 := c_rLast S.hard (smallM (by rw [q1, List.length_append]; simp; omega))
            have k2 := c_rLast r.hard (smallM (by omega))
            ((try ((refine Exists.intro none ?_); (conv => whnf))); first | ((with_reducible refine call_by (kp) ?_); conv => whnf))
            (refine Exists.intro _ (And.intro rfl (And.intro (by intro q _; simp only [List.length_nil]; omega) (And.intro (by intro i hi; exact absurd hi (Nat.not_lt_zero i)) ?_))); conv => whnf)
            ((try ((refine Exists.intro none ?_); (conv => whnf))); first | ((with_reducible refine call_by (k1) ?_); conv => whnf))
            ((try ((refine Exists.intro none ?_); (conv => whnf))); first | ((with_reducible refine call_by (k2) ?_); conv => whnf))
            have hSl : S.hard.log.length = r.hard.log.length + 1 := by rw [q1, List.length_append]; rfl
            ((first | (with_reducible refine split_dec (fun h => ?_) (fun h => ?_)) | (with_reducible refine split_beq (fun h => ?_) (fun h => ?_)) | (with_reducible refine split_bne (fun h => ?_) (fun h => ?_)) | (with_reducible refine split_not (fun h => ?_) (fun h => ?_)) | (with_reducible refine split_beqS (fun h => ?_) (fun h => ?_)) | (with_reducible refine split_intro (fun h => ?_) (fun h => ?_))) <;> conv => whnf)
            · simp only [List.length_map] at h
              exact absurd h (by omega)
            · clear h
              (first | (with_reducible refine split_dt (by first | assumption | omega) ?_) | (with_reducible refine split_df (by first | assumption | omega) ?_) | (with_reducible refine split_et (by first | assumption | omega) ?_) | (with_reducible refine split_ef (by first | assumption | omega) ?_) | (with_reducible refine split_bt (by first | assumption | omega) ?_) | (with_reducible refine split_bf (by first | assumption | omega) ?_) | (with_reducible refine split_nt (by assumption) ?_) | (with_reducible refine split_nf (by assumption) ?_) | (with_reducible refine split_t (by assumption) ?_) | (with_reducible refine split_f (by assumption) ?_))
              conv => whnf
              (first | (with_reducible refine split_dt (by first | assumption | omega) ?_) | (with_reducible refine split_df (by first | assumption | omega) ?_) | (with_reducible refine split_et (by first | assumption | omega) ?_) | (with_reducible refine split_ef (by first | assumption | omega) ?_) | (with_reducible refine split_bt (by first | assumption | omega) ?_) | (with_reducible refine split_bf (by first | assumption | omega) ?_) | (with_reducible refine split_nt (by assumption) ?_) | (with_reducible refine split_nf (by assumption) ?_) | (with_reducible refine split_t (by assumption) ?_) | (with_reducible refine split_f (by assumption) ?_))
              conv => whnf
              (first | (with_reducible refine split_dt (by first | assumption | omega) ?_) | (with_reducible refine split_df (by first | assumption | omega) ?_) | (with_reducible refine split_et (by first | assumption | omega) ?_) | (with_reducible refine split_ef (by first | assumption | omega) ?_) | (with_reducible refine split_bt (by first | assumption | omega) ?_) | (with_reducible refine split_bf (by first | assumption | omega) ?_) | (with_reducible refine split_nt (by assumption) ?_) | (with_reducible refine split_nf (by assumption) ?_) | (with_reducible refine split_t (by assumption) ?_) | (with_reducible refine split_f (by assumption) ?_))
              conv => whnf
              have ew6 : IntKind.i64.wrap (((S.hard.log.map Ent.enc).length : Int) - 1) = ((r.hard.log.length : Nat) : Int) := by
                rw [List.length_map, hSl]
                rw [show (((r.hard.log.length + 1 : Nat)) : Int) - 1 = ((r.hard.log.length : Nat) : Int) by omega]
                exact wrap_id (by omega) (by omega)
              rw [ew6]
              refine ⟨⟨by omega, by omega, by rw [List.length_map]; omega⟩, ?_⟩
              conv => whnf
              have el : (r.hard.log.map Ent.enc).length = r.hard.log.length := List.length_map ..
              have ks := s_Entries r.hard.log (smallM (by omega))
              refine Exists.intro none ?_
              conv => whnf
              refine call_eq ks ?_ ?_
              · rw [q1, Int.toNat_natCast, List.map_append, ← el, List.take_left]; rfl
              · conv => whnf
                have hrow : (S.hard.log.map Ent.enc)[(((r.hard.log.length : Nat) : Int)).toNat]? = some (ec r c).enc := by
                  rw [q1, Int.toNat_natCast, List.map_append, ← el, List.getElem?_append_right (Nat.le_refl _), Nat.sub_self]; rfl
                rw [ew6]
                refine ⟨by omega, _, hrow, ?_⟩
                conv => whnf
                have kcc := s_Call c
                ((try ((refine Exists.intro none ?_); (conv => whnf))); first | ((with_reducible refine call_by (kcc) ?_); conv => whnf))
                ((try ((refine Exists.intro none ?_); (conv => whnf))); first | ((with_reducible refine call_by (c_wakes18) ?_); conv => whnf))
                exact exit_plain rfl rfl
          · have kp := c_Prop_err r c hf hrb hpe
            generalize propE r c = E2 at *
            ((try ((refine Exists.intro none ?_); (conv => whnf))); first | ((with_reducible refine call_by (kp) ?_); conv => whnf))
            ((first | (with_reducible refine split_dec (fun h => ?_) (fun h => ?_)) | (with_reducible refine split_beq (fun h => ?_) (fun h => ?_)) | (with_reducible refine split_bne (fun h => ?_) (fun h => ?_)) | (with_reducible refine split_not (fun h => ?_) (fun h => ?_)) | (with_reducible refine split_beqS (fun h => ?_) (fun h => ?_)) | (with_reducible refine split_intro (fun h => ?_) (fun h => ?_))) <;> conv => whnf)
            · ((try ((refine Exists.intro none ?_); (conv => whnf))); first | ((with_reducible refine call_by (c_wakes18) ?_); conv => whnf))
              exact exit_plain rfl rfl
            · exact absurd (by first | exact h | (simpa using h)) hpe
    · refine spec_of_body mixed Try.func6 rfl (by kernel_rfl) (by kernel_rfl) ?_; conv => whnf
      ((try ((refine Exists.intro none ?_); (conv => whnf))); first | ((with_reducible refine call_by (kr) ?_); conv => whnf))
      ((try ((refine Exists.intro none ?_); (conv => whnf))); first | ((with_reducible refine call_by (km) ?_); conv => whnf))
      ((try ((refine Exists.intro none ?_); (conv => whnf))); first | ((with_reducible refine call_by (kc) ?_); conv => whnf))
      (first | (with_reducible refine split_dt (by first | assumption | omega) ?_) | (with_reducible refine split_df (by first | assumption | omega) ?_) | (with_reducible refine split_et (by first | assumption | omega) ?_) | (with_reducible refine split_ef (by first | assumption | omega) ?_) | (with_reducible refine split_bt (by first | assumption | omega) ?_) | (with_reducible refine split_bf (by first | assumption | omega) ?_) | (with_reducible refine split_nt (by assumption) ?_) | (with_reducible refine split_nf (by assumption) ?_) | (with_reducible refine split_t (by assumption) ?_) | (with_reducible refine split_f (by assumption) ?_))
      conv => whnf
      (first | (with_reducible refine split_dt (by first | assumption | omega) ?_) | (with_reducible refine split_df (by first | assumption | omega) ?_) | (with_reducible refine split_et (by first | assumption | omega) ?_) | (with_reducible refine split_ef (by first | assumption | omega) ?_) | (with_reducible refine split_bt (by first | assumption | omega) ?_) | (with_reducible refine split_bf (by first | assumption | omega) ?_) | (with_reducible refine split_nt (by assumption) ?_) | (with_reducible refine split_nf (by assumption) ?_) | (with_reducible refine split_t (by assumption) ?_) | (with_reducible refine split_f (by assumption) ?_))
      conv => whnf
      ((try ((refine Exists.intro none ?_); (conv => whnf))); first | ((with_reducible refine call_by (c_wakes18) ?_); conv => whnf))
      exact exit_plain rfl rfl
  · refine spec_of_body mixed Try.func6 rfl (by kernel_rfl) (by kernel_rfl) ?_; conv => whnf
    ((try ((refine Exists.intro none ?_); (conv => whnf))); first | ((with_reducible refine call_by (kr) ?_); conv => whnf))
    ((try ((refine Exists.intro none ?_); (conv => whnf))); first | ((with_reducible refine call_by (km) ?_); conv => whnf))
    ((try ((refine Exists.intro none ?_); (conv => whnf))); first | ((with_reducible refine call_by (kc) ?_); conv => whnf))
    (first | (with_reducible refine split_dt (by first | assumption | omega) ?_) | (with_reducible refine split_df (by first | assumption | omega) ?_) | (with_reducible refine split_et (by first | assumption | omega) ?_) | (with_reducible refine split_ef (by first | assumption | omega) ?_) | (with_reducible refine split_bt (by first | assumption | omega) ?_) | (with_reducible refine split_bf (by first | assumption | omega) ?_) | (with_reducible refine split_nt (by assumption) ?_) | (with_reducible refine split_nf (by assumption) ?_) | (with_reducible refine split_t (by assumption) ?_) | (with_reducible refine split_f (by assumption) ?_))
    conv => whnf
    ((try ((refine Exists.intro none ?_); (conv => whnf))); first | ((with_reducible refine call_by (c_wakes18) ?_); conv => whnf))
    exact exit_plain rfl rfl
theorem told_RaftLeads (qs : List PV) (h : ArgsOf Try.prog [35, 45, 61] qs) : Ctr Try.prog 6 qs (bv true) [] := by
  obtain ⟨p1, qs, rfl, h1, h⟩ := argsOf_cons h
  obtain ⟨p2, qs, rfl, h2, h⟩ := argsOf_cons h
  obtain ⟨p3, qs, rfl, h3, h⟩ := argsOf_cons h
  obtain rfl := argsOf_nil h
  obtain ⟨r, rfl, hr⟩ := arg_Rft h1
  obtain ⟨m, rfl, hm⟩ := arg_Mg h2
  obtain ⟨c, rfl, _⟩ := arg_VCall h3
  exact l_RaftLeads r m c hm
end Go.Proofs
