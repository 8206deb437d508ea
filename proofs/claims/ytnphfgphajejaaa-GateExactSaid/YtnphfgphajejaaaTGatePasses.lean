import Derived.Test.YtnphfgphajejaaaC32
namespace Go.Proofs
open Go.Pv
set_option maxRecDepth 100000

theorem one_rowP {α : Type} {f : α → List PV} {l : List α} {i : Nat} (h : i < l.length) : List.drop i (List.take (i + 1) (l.map f)) = [f (l[i]'h)] := by
  rw [← List.map_take, ← List.map_drop, List.take_succ_eq_append_getElem h, List.drop_append]
  simp [Nat.min_eq_left (Nat.le_of_lt h)]
theorem one_own {α : Type} {f : α → List PV} {l : List α} {i : Nat} (h : i < l.length) : List.take 1 (List.drop i (l.map f)) = [f (l[i]'h)] := by
  rw [← List.map_drop, List.drop_eq_getElem_cons h]; rfl

theorem filter_at {α : Type} (p : α → Bool) {l : List α} {i : Nat} (h : i < l.length) (hp : p (l[i]'h) = true) : ∃ hn : ((l.take i).filter p).length < (l.filter p).length, (l.filter p)[((l.take i).filter p).length]'hn = l[i]'h := by
  have e : l.filter p = (l.take i).filter p ++ (l[i]'h :: (l.drop (i + 1)).filter p) := by
    conv => lhs; rw [← List.take_append_drop i l, List.filter_append, List.drop_eq_getElem_cons h, List.filter_cons, if_pos hp]
  refine ⟨by rw [e]; simp, ?_⟩
  simp only [e]
  rw [List.getElem_append_right (Nat.le_refl _)]; simp

theorem tkF_none (l : List Pd) (index : Int) (x : Ent) (h : ¬ x.kind = 1) : l.find? (tkF index x) = none := by
  rw [List.find?_eq_none]
  intro p _
  simp [tkF, h]
theorem callR_kz : ¬ callR kz = 0 := by unfold callR; rw [if_pos (by decide)]; decide

set_option maxHeartbeats 2000000 in
theorem l_GatePasses (l : List Pd) (index : Int) : Ctr Try.prog 19 [.sl 11 (l.map Pd.enc), iv index] (bv true) [] := by
  refine spec_of_body mixed Try.func19 rfl (by kernel_rfl) (by kernel_rfl) ?_; conv => whnf
  ((try ((refine Exists.intro none ?_); (conv => whnf))); first | ((with_reducible refine call_by (c_heavy21 l) ?_); conv => whnf))
  ((first | (with_reducible refine split_dec (fun h => ?_) (fun h => ?_)) | (with_reducible refine split_beq (fun h => ?_) (fun h => ?_)) | (with_reducible refine split_bne (fun h => ?_) (fun h => ?_)) | (with_reducible refine split_not (fun h => ?_) (fun h => ?_)) | (with_reducible refine split_beqS (fun h => ?_) (fun h => ?_)) | (with_reducible refine split_intro (fun h => ?_) (fun h => ?_))) <;> conv => whnf)
  · exact exit_plain rfl rfl
  have hl : l.length ≤ 100 := by simp [heavyP] at h; omega
  have hml : l.length ≤ maxLen := smallM (by omega)
  ((try ((refine Exists.intro none ?_); (conv => whnf))); first | ((with_reducible refine call_by (c_rPends l hml) ?_); conv => whnf))
  ((first | (with_reducible refine split_dec (fun h => ?_) (fun h => ?_)) | (with_reducible refine split_beq (fun h => ?_) (fun h => ?_)) | (with_reducible refine split_bne (fun h => ?_) (fun h => ?_)) | (with_reducible refine split_not (fun h => ?_) (fun h => ?_)) | (with_reducible refine split_beqS (fun h => ?_) (fun h => ?_)) | (with_reducible refine split_intro (fun h => ?_) (fun h => ?_))) <;> conv => whnf)
  · exact exit_plain rfl rfl
  have hk := c_Take l (by omega) index ez
  rw [tkF_none l index ez (by decide)] at hk
  ((try ((refine Exists.intro none ?_); (conv => whnf))); first | ((with_reducible refine call_by (hk) ?_); conv => whnf))
  (refine Exists.intro _ (And.intro rfl (And.intro (by intro q hq; first | (cases hq; done) | (simp only [List.mem_cons, List.not_mem_nil, or_false] at hq; rcases hq with rfl | rfl <;> (simp only [List.length_cons, List.length_nil]; omega)) | (simp only [List.mem_cons, List.not_mem_nil, or_false] at hq; subst hq; simp only [List.length_cons, List.length_nil]; omega)) (And.intro (by intro i hi; simp only [List.length_cons, List.length_nil, Nat.lt_one_iff, Nat.zero_add] at hi; subst hi; rfl) ?_))); conv => whnf)
  generalize hF : (l.filter fun p => decide (index < p.index)) = F
  have hFl : F.length ≤ l.length := by rw [← hF]; exact List.length_filter_le _ _
  refine tri_forO mixed (by kernel_rfl) (fun i : Nat => i ≤ l.length) (fun i => [(9, iv i), (8, iv (leftL l index i).length)]) (fun _ => [(6, (callOf none).enc)]) (fun _ => [(336, some (false, 11, F.map Pd.enc))]) [(336, 336)] (fun i => l.length - i) 0 (Nat.zero_le _) ?_ ?_
  · conv => whnf
    (refine And.intro (And.intro (by with_unfolding_all rfl) (by intro q h; cases h)) ?_; refine And.intro ?_ (And.intro ?_ ?_) <;> (conv => whnf) <;> (repeat' (first | exact True.intro | (with_reducible exact rfl) | exact (rfl : List.replicate 0 PV.bad = []) | ((with_reducible refine And.intro ?_ ?_) <;> (first | (with_reducible exact wkV_same _ rfl) | exact wkV_pt rfl rfl | exact wkV_ow rfl rfl rfl | (refine wkV_ow rfl rfl ?_) | (refine wkV_sc (congrArg (Value.int .i64) ?_)) | (refine wkV_sc (congrArg Value.bool ?_)) | exact wkV_ls rfl | ((refine wkV_cl ?_); conv => whnf) | ((refine wkV_tu ?_); conv => whnf) | ((refine wkV_ag ?_); conv => whnf) | (conv => whnf))))))
    all_goals rfl
  intro i hi
  conv => whnf
  ((first | (with_reducible refine split_dec (fun h => ?_) (fun h => ?_)) | (with_reducible refine split_beq (fun h => ?_) (fun h => ?_)) | (with_reducible refine split_bne (fun h => ?_) (fun h => ?_)) | (with_reducible refine split_not (fun h => ?_) (fun h => ?_)) | (with_reducible refine split_beqS (fun h => ?_) (fun h => ?_)) | (with_reducible refine split_intro (fun h => ?_) (fun h => ?_))) <;> conv => whnf)
  · simp only [List.length_map] at h
    have hlt : i < l.length := by omega
    have ks := leftL_succ (index := index) hlt
    have kn := leftL_len l index i
    (first | ((with_reducible refine And.intro (by omega) (Exists.intro _ (And.intro (row_at hlt) ?_))); conv => whnf))
    ((first | (with_reducible refine split_dec (fun h => ?_) (fun h => ?_)) | (with_reducible refine split_beq (fun h => ?_) (fun h => ?_)) | (with_reducible refine split_bne (fun h => ?_) (fun h => ?_)) | (with_reducible refine split_not (fun h => ?_) (fun h => ?_)) | (with_reducible refine split_beqS (fun h => ?_) (fun h => ?_)) | (with_reducible refine split_intro (fun h => ?_) (fun h => ?_))) <;> conv => whnf)
    · rw [if_pos h] at ks
      obtain ⟨g1, g2⟩ := filter_at (fun p : Pd => decide (index < p.index)) hlt (by simpa using h)
      have g1 : (leftL l index i).length < F.length := by rw [← hF]; exact g1
      have g2 : F[(leftL l index i).length]'g1 = l[i]'hlt := by subst hF; exact g2
      ((first | (with_reducible refine split_dec (fun h => ?_) (fun h => ?_)) | (with_reducible refine split_beq (fun h => ?_) (fun h => ?_)) | (with_reducible refine split_bne (fun h => ?_) (fun h => ?_)) | (with_reducible refine split_not (fun h => ?_) (fun h => ?_)) | (with_reducible refine split_beqS (fun h => ?_) (fun h => ?_)) | (with_reducible refine split_intro (fun h => ?_) (fun h => ?_))) <;> conv => whnf)
      · exfalso
        simp only [List.length_map] at h
        omega
      have e1 : IntKind.i64.wrap (((leftL l index i).length : Int) + 1) = (((leftL l index i).length + 1 : Nat) : Int) := w1 (by omega)
      have e2 : IntKind.i64.wrap ((i : Int) + 1) = ((i + 1 : Nat) : Int) := w1 (by omega)
      rw [e1]
      refine ⟨by simp only [List.length_map]; omega, ?_⟩
      conv => whnf
      rw [e2]
      refine ⟨by simp only [List.length_map]; omega, ?_⟩
      conv => whnf
      refine Exists.intro none ?_
      conv => whnf
      refine ⟨by simp only [List.length_map, Int.toNat_natCast]; omega, ?_⟩
      conv => whnf
      have hc := c_kPends [l[i]'hlt] [l[i]'hlt] (by simp [maxLen])
      rw [decide_eq_true rfl] at hc
      refine call_eq hc ?_ ?_
      · rw [Int.toNat_natCast, Int.toNat_natCast, Int.toNat_natCast, Int.toNat_natCast, one_rowP hlt, Nat.zero_add, show (leftL l index i).length + 1 - (leftL l index i).length = 1 by omega, one_own g1, g2]; rfl
      conv => whnf
      refine ⟨i + 1, [(336, 336)], ⟨by omega, by omega⟩, ?_⟩
      rw [ks]
      conv => whnf
      (refine And.intro (And.intro (by with_unfolding_all rfl) (by intro q h; cases h)) ?_; refine And.intro ?_ (And.intro ?_ ?_) <;> (conv => whnf) <;> (repeat' (first | exact True.intro | (with_reducible exact rfl) | exact (rfl : List.replicate 0 PV.bad = []) | ((with_reducible refine And.intro ?_ ?_) <;> (first | (with_reducible exact wkV_same _ rfl) | exact wkV_pt rfl rfl | exact wkV_ow rfl rfl rfl | (refine wkV_ow rfl rfl ?_) | (refine wkV_sc (congrArg (Value.int .i64) ?_)) | (refine wkV_sc (congrArg Value.bool ?_)) | exact wkV_ls rfl | ((refine wkV_cl ?_); conv => whnf) | ((refine wkV_tu ?_); conv => whnf) | ((refine wkV_ag ?_); conv => whnf) | (conv => whnf))))))
      all_goals first | exact w1 (by omega) | rfl | skip
      rw [e1]; simp
    · rw [if_neg h, List.append_nil] at ks
      refine ⟨i + 1, [(336, 336)], ⟨by omega, by omega⟩, ?_⟩
      rw [ks]
      conv => whnf
      (refine And.intro (And.intro (by with_unfolding_all rfl) (by intro q h; cases h)) ?_; refine And.intro ?_ (And.intro ?_ ?_) <;> (conv => whnf) <;> (repeat' (first | exact True.intro | (with_reducible exact rfl) | exact (rfl : List.replicate 0 PV.bad = []) | ((with_reducible refine And.intro ?_ ?_) <;> (first | (with_reducible exact wkV_same _ rfl) | exact wkV_pt rfl rfl | exact wkV_ow rfl rfl rfl | (refine wkV_ow rfl rfl ?_) | (refine wkV_sc (congrArg (Value.int .i64) ?_)) | (refine wkV_sc (congrArg Value.bool ?_)) | exact wkV_ls rfl | ((refine wkV_cl ?_); conv => whnf) | ((refine wkV_tu ?_); conv => whnf) | ((refine wkV_ag ?_); conv => whnf) | (conv => whnf))))))
      all_goals first | exact w1 (by omega) | rfl
  · simp only [List.length_map] at h
    have : i = l.length := by omega
    subst this
    have e3 : ((((leftL l index l.length).length : Nat) : Int) == (((F.map Pd.enc).length : Nat) : Int)) = true := by
      rw [leftL_all, hF, List.length_map]; exact beq_self_eq_true _
    rw [e3]
    ((try ((refine Exists.intro none ?_); (conv => whnf))); first | ((with_reducible refine call_by (c_rCall kz) ?_); conv => whnf))
    ((try ((refine Exists.intro none ?_); (conv => whnf))); first | ((with_reducible refine call_by (c_wakes21) ?_); conv => whnf))
    exact exit_plain rfl rfl

theorem told_GatePasses (qs : List PV) (h : ArgsOf Try.prog [97, 3] qs) : Ctr Try.prog 19 qs (bv true) [] := by
  obtain ⟨p1, qs, rfl, h1, h⟩ := argsOf_cons h
  obtain ⟨p2, qs, rfl, h2, h⟩ := argsOf_cons h
  obtain rfl := argsOf_nil h
  obtain ⟨l, rfl, _, _⟩ := arg_Pds h1
  obtain ⟨i, rfl, _⟩ := arg_i h2
  exact l_GatePasses l i
end Go.Proofs
