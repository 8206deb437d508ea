import Derived.Test.YtnphfgphajejaaaC41
import Derived.Test.YtnphfgphajejaaaTLogsPuts
set_option linter.unusedSimpArgs false
set_option linter.unusedVariables false
namespace Go.Proofs
open Go.Pv
set_option maxRecDepth 100000

set_option maxHeartbeats 4000000 in
theorem l_LogsParts (a : Hrd) (hbI : isI a.base) (i : Int) (hi : isI i) (l : List Ent) (p : Int) (hp : isI p) : Ctr Try.prog 23 [.ag a.enc, iv i, .sl 16 (l.map Ent.enc), iv p] (bv true) [] := by
  refine spec_of_body mixed Try.func23 rfl (by kernel_rfl) (by kernel_rfl) ?_; conv => whnf
  ((try ((refine Exists.intro none ?_); (conv => whnf))); first | ((with_reducible refine call_by (c_Heavy09 a) ?_); conv => whnf))
  ((first | (with_reducible refine split_dec (fun h => ?_) (fun h => ?_)) | (with_reducible refine split_beq (fun h => ?_) (fun h => ?_)) | (with_reducible refine split_bne (fun h => ?_) (fun h => ?_)) | (with_reducible refine split_not (fun h => ?_) (fun h => ?_)) | (with_reducible refine split_beqS (fun h => ?_) (fun h => ?_)) | (with_reducible refine split_intro (fun h => ?_) (fun h => ?_))) <;> conv => whnf)
  · exact exit_plain rfl rfl
  obtain ⟨hal, has⟩ := heavyH_len h
  ((try ((refine Exists.intro none ?_); (conv => whnf))); first | ((with_reducible refine call_by (c_HeavyEntries l) ?_); conv => whnf))
  ((first | (with_reducible refine split_dec (fun h => ?_) (fun h => ?_)) | (with_reducible refine split_beq (fun h => ?_) (fun h => ?_)) | (with_reducible refine split_bne (fun h => ?_) (fun h => ?_)) | (with_reducible refine split_not (fun h => ?_) (fun h => ?_)) | (with_reducible refine split_beqS (fun h => ?_) (fun h => ?_)) | (with_reducible refine split_intro (fun h => ?_) (fun h => ?_))) <;> conv => whnf)
  · exact exit_plain rfl rfl
  have hll := heavyEs_len h
  clear h
  have k1 := ctr_res (c_lPut a (by omega) (by omega) hbI i hi l (by omega))
  by_cases e : putHE a i l = 0
  · rw [(res_ok e).2.2] at k1
    obtain ⟨n, ko⟩ := putOk e (by omega)
    ((try ((refine Exists.intro none ?_); (conv => whnf))); first | ((with_reducible refine call_by (k1) ?_); conv => whnf))
    (refine Exists.intro _ (And.intro rfl (And.intro (by intro q _; simp only [List.length_nil]; omega) (And.intro (by intro i hi; exact absurd hi (Nat.not_lt_zero i)) ?_))); conv => whnf)
    have e1 : IntKind.u64.wrap (IntKind.i64.wrap (((l.map Ent.enc).length : Int) + 1)) = (l.length : Int) + 1 := by
      rw [List.length_map, wrap_id (by omega) (by omega)]
      unfold IntKind.wrap
      simp [IntKind.bits]
      omega
    rw [e1]
    refine ⟨⟨by omega, by decide⟩, ?_⟩
    conv => whnf
    obtain ⟨k, ek, hk⟩ : ∃ k : Nat, IntKind.i64.wrap ((IntKind.u64.wrap p).tmod ((l.length : Int) + 1)) = (k : Int) ∧ k ≤ l.length := by
      have h0 : 0 ≤ IntKind.u64.wrap p := by
        unfold IntKind.wrap
        simp [IntKind.bits, IntKind.signed]
        omega
      have h1 := Int.tmod_nonneg ((l.length : Int) + 1) h0
      have h2 := Int.tmod_lt_of_pos (IntKind.u64.wrap p) (show (0 : Int) < (l.length : Int) + 1 by omega)
      rw [wrap_id (by omega) (by omega)]
      exact ⟨((IntKind.u64.wrap p).tmod ((l.length : Int) + 1)).toNat, by omega, by omega⟩
    rw [ek]
    obtain ⟨o1, o2, o3⟩ := ko.part hk
    have hb0 := (hardB_A ko.hard).1.b
    have hin := ko.at'
    have hnl := ko.le
    have htl : (l.take k).length ≤ 200 := by rw [List.length_take]; omega
    have hdl : (l.drop k).length ≤ 200 := by rw [List.length_drop]; omega
    have k2 := ctr_res (c_lPut a (by omega) (by omega) hbI i hi (l.take k) (by omega))
    rw [(res_ok (o1.e (by omega))).2.2] at k2
    have hyl : (putH a i (l.take k)).log.length ≤ 400 := by
      rw [o1.log]
      have := putG_le a.log (l.take k) o1.le
      show (putG a.log n (l.take k)).length ≤ 400
      omega
    have hxl : (putH a i l).log.length ≤ 400 := by
      rw [ko.log]
      have := putG_le a.log l ko.le
      show (putG a.log n l).length ≤ 400
      omega
    have hys : (putH a i (l.take k)).snap = a.snap := rfl
    have hyb : (putH a i (l.take k)).base = a.base := rfl
    have hxs : (putH a i l).snap = a.snap := rfl
    have k3 := ctr_res (c_lPut (putH a i (l.take k)) (by rw [hys]; omega) (by omega) (by rw [hyb]; exact hbI) (i + k) (by unfold isI; omega) (l.drop k) (by omega))
    rw [(res_ok (o2.e (by omega))).2.2, o3] at k3
    have ks := s_Hard (putH a i l) (smallM (by rw [hxs]; omega)) (smallM (by omega))
    have q1 : List.drop (Int.toNat 0) (List.take (k : Int).toNat (l.map Ent.enc)) = (l.take k).map Ent.enc := by rw [Int.toNat_natCast, List.map_take]; rfl
    have q2 : List.drop (k : Int).toNat (List.take (((l.map Ent.enc).length : Nat) : Int).toNat (l.map Ent.enc)) = (l.drop k).map Ent.enc := by rw [Int.toNat_natCast, Int.toNat_natCast, List.take_length, List.map_drop]
    have q3 : IntKind.i64.wrap (i + (k : Int)) = i + k := wrap_id (by omega) (by omega)
    refine ⟨⟨by omega, by omega, by rw [List.length_map]; omega⟩, ?_⟩
    conv => whnf
    refine Exists.intro none ?_
    conv => whnf
    rw [q1]
    ((try ((refine Exists.intro none ?_); (conv => whnf))); first | ((with_reducible refine call_by (k2) ?_); conv => whnf))
    (refine Exists.intro _ (And.intro rfl (And.intro (by intro q _; simp only [List.length_nil]; omega) (And.intro (by intro i hi; exact absurd hi (Nat.not_lt_zero i)) ?_))); conv => whnf)
    refine ⟨⟨by omega, by rw [List.length_map]; omega⟩, ?_⟩
    conv => whnf
    refine Exists.intro none ?_
    conv => whnf
    rw [q2, q3]
    ((try ((refine Exists.intro none ?_); (conv => whnf))); first | ((with_reducible refine call_by (k3) ?_); conv => whnf))
    (refine Exists.intro _ (And.intro rfl (And.intro (by intro q _; simp only [List.length_nil]; omega) (And.intro (by intro i hi; exact absurd hi (Nat.not_lt_zero i)) ?_))); conv => whnf)
    ((try ((refine Exists.intro none ?_); (conv => whnf))); first | ((with_reducible refine call_by (ks) ?_); conv => whnf))
    ((try ((refine Exists.intro none ?_); (conv => whnf))); first | ((with_reducible refine call_by (c_wakes09) ?_); conv => whnf))
    exact exit_plain rfl rfl
  · rw [(res_no e).2.2] at k1
    ((try ((refine Exists.intro none ?_); (conv => whnf))); first | ((with_reducible refine call_by (k1) ?_); conv => whnf))
    ((first | (first | (with_reducible refine split_dt (by assumption) ?_) | (with_reducible refine split_df (by assumption) ?_) | (with_reducible refine split_et (by assumption) ?_) | (with_reducible refine split_ef (by assumption) ?_) | (with_reducible refine split_bt (by assumption) ?_) | (with_reducible refine split_bf (by assumption) ?_) | (with_reducible refine split_nt (by assumption) ?_) | (with_reducible refine split_nf (by assumption) ?_) | (with_reducible refine split_t (by assumption) ?_) | (with_reducible refine split_f (by assumption) ?_)) | (first | (with_reducible refine split_dec (fun h => ?_) (fun h => ?_)) | (with_reducible refine split_beq (fun h => ?_) (fun h => ?_)) | (with_reducible refine split_bne (fun h => ?_) (fun h => ?_)) | (with_reducible refine split_not (fun h => ?_) (fun h => ?_)) | (with_reducible refine split_beqS (fun h => ?_) (fun h => ?_)) | (with_reducible refine split_intro (fun h => ?_) (fun h => ?_)))) <;> conv => whnf)
    ((try ((refine Exists.intro none ?_); (conv => whnf))); first | ((with_reducible refine call_by (c_wakes09) ?_); conv => whnf))
    exact exit_plain rfl rfl

theorem told_LogsParts (qs : List PV) (h : ArgsOf Try.prog [32, 3, 30, 3] qs) : Ctr Try.prog 23 qs (bv true) [] := by
  obtain ⟨p1, qs, rfl, h1, h⟩ := argsOf_cons h
  obtain ⟨p2, qs, rfl, h2, h⟩ := argsOf_cons h
  obtain ⟨p3, qs, rfl, h3, h⟩ := argsOf_cons h
  obtain ⟨p4, qs, rfl, h4, h⟩ := argsOf_cons h
  obtain rfl := argsOf_nil h
  obtain ⟨a, rfl, ha⟩ := arg_Hrd h1
  obtain ⟨i, rfl, hi⟩ := arg_i h2
  obtain ⟨l, rfl, _⟩ := arg_Ents h3
  obtain ⟨p, rfl, hp⟩ := arg_i h4
  exact l_LogsParts a ha.2.2.1 i hi l p hp
end Go.Proofs
