import Derived.Test.YtbhfokahocgndaaK1
import Derived.Test.YtbhfokahocgndaaK5
set_option linter.unusedSimpArgs false
set_option linter.unusedVariables false
namespace Go.Proofs
open Go.Pv
set_option maxRecDepth 100000

set_option maxHeartbeats 4000000 in
theorem w_Asking (c : Conf) (id : Int) (n : Nat) (hn : n ≤ 200) (hc' : confB c = true) (hid : 0 ≤ id ∧ id < 7) (h2 : 2 ≤ count (bor c.full c.wit)) (ro vo w : Nat → Int) (O : Nat → List Int) (A : Nat → Nat)
    (h0 : newR id (hc c) = ak c id (ro 0) (vo 0) (w 0) ((0 : Nat) : Int))
    (hk : ∀ i : Nat, i < n → Ctr Try.prog 14 [.ag (ak c id (ro i) (vo i) (w i) i).enc] (.tu [.ag (ak c id (ro (i + 1)) (vo (i + 1)) (w (i + 1)) ((i + 1 : Nat) : Int)).enc, .sl 16 ((O i).map (askG id)), iv 0]) [])
    (hro : ∀ i, ro i = 0 ∨ ro i = 1) (hO : ∀ i, ∀ v ∈ O i, hasB (bor c.full c.wit) v = true)
    (hOl : ∀ i, (O i).length ≤ 7) (hA0 : A 0 = 0) (hA1 : ∀ i, O i = [] → A (i + 1) = A i) (hA2 : ∀ i, O i ≠ [] → A (i + 1) = A i + 1 ∧ ((O i).length : Int) = count (bor c.full c.wit) - 1)
    (hAl : ∀ i, A i ≤ i)
    (hf : (hasB (bor c.full c.wit) id = false → A n = 0) ∧ (hasB (bor c.full c.wit) id = true → delay c id ≠ 0 ∧ (A n : Int) = (n : Int).tdiv (delay c id))) :
    Ctr Try.prog 3 [.ag c.enc, iv id, iv n] (bv true) [] := by
  have k1 := c_rConf c
  have k2 := c_Node id
  have k3 := c_rVoters c
  have k4 := c_rCount (bor c.full c.wit)
  have k5 := c_rBegin c
  have hh : hardB (hc c) = true := (rgt_of (ak_right hc' (id := 0) (ro := 0) (vo := 0) (w := 6) (q := 0) (by decide) (by decide) (by decide) (by decide) (by decide) (by decide))).hard
  have k6 := c_New id hid (hc c) (by show 0 ≤ 4294967; decide) hh
  have k7 := c_Has (bor c.full c.wit) id
  have k8 := c_rDelay c id
  have kh := fun v => c_Has (bor c.full c.wit) v
  rw [hc'] at k1
  rw [show withinB id 0 6 = true by simp [withinB]; omega] at k2
  rw [h0] at k6
  generalize delay c id = D at *
  refine spec_of_body mixed Try.func3 rfl (by kernel_rfl) (by kernel_rfl) ?_; conv => whnf
  ((try ((refine Exists.intro none ?_); (conv => whnf))); first | ((with_reducible refine call_by (k1) ?_); conv => whnf))
  ((try ((refine Exists.intro none ?_); (conv => whnf))); first | ((with_reducible refine call_by (k2) ?_); conv => whnf))
  ((first | (with_reducible refine split_dec (fun h => ?_) (fun h => ?_)) | (with_reducible refine split_beq (fun h => ?_) (fun h => ?_)) | (with_reducible refine split_bne (fun h => ?_) (fun h => ?_)) | (with_reducible refine split_not (fun h => ?_) (fun h => ?_)) | (with_reducible refine split_beqS (fun h => ?_) (fun h => ?_)) | (with_reducible refine split_intro (fun h => ?_) (fun h => ?_))) <;> conv => whnf)
  · exact absurd h (by omega)
  ((try ((refine Exists.intro none ?_); (conv => whnf))); first | ((with_reducible refine call_by (k3) ?_); conv => whnf))
  ((try ((refine Exists.intro none ?_); (conv => whnf))); first | ((with_reducible refine call_by (k4) ?_); conv => whnf))
  ((first | (with_reducible refine split_dec (fun h => ?_) (fun h => ?_)) | (with_reducible refine split_beq (fun h => ?_) (fun h => ?_)) | (with_reducible refine split_bne (fun h => ?_) (fun h => ?_)) | (with_reducible refine split_not (fun h => ?_) (fun h => ?_)) | (with_reducible refine split_beqS (fun h => ?_) (fun h => ?_)) | (with_reducible refine split_intro (fun h => ?_) (fun h => ?_))) <;> conv => whnf)
  · exact absurd h (by omega)
  ((try ((refine Exists.intro none ?_); (conv => whnf))); first | ((with_reducible refine call_by (k5) ?_); conv => whnf))
  ((try ((refine Exists.intro none ?_); (conv => whnf))); refine call_deep (k6) (by (repeat' (first | exact subVL_nil | exact subVR_nil | refine subVL_cons ?_ ?_ | refine subVR_cons ?_ ?_ | exact SubV.refl _ | exact subV_nl | (with_reducible exact subV_tk rfl) | refine subV_ag ?_ | refine subV_sl ?_ | refine subV_ep ?_))) ?_; conv => whnf)
  (refine Exists.intro _ (And.intro rfl (And.intro (by intro q _; simp only [List.length_nil]; omega) (And.intro (by intro i hi; exact absurd hi (Nat.not_lt_zero i)) ?_))); conv => whnf)
  ((try ((refine Exists.intro none ?_); (conv => whnf))); first | ((with_reducible refine call_by (k3) ?_); conv => whnf))
  ((try ((refine Exists.intro none ?_); (conv => whnf))); first | ((with_reducible refine call_by (k7) ?_); conv => whnf))
  generalize hasB (bor c.full c.wit) id = vt at *
  refine tri_forO mixed (by kernel_rfl) (fun i : Nat => i ≤ n) (fun i => [(11, iv i), (10, iv (A i))]) (fun i => [(3, c.enc), (7, (ak c id (ro i) (vo i) (w i) i).enc)]) (fun _ => []) [] (fun i => n - i) 0 (Nat.zero_le n) ?_ ?_
  · conv => whnf
    (refine And.intro (And.intro (by with_unfolding_all rfl) (by intro q h; cases h)) ?_; refine And.intro ?_ (And.intro ?_ ?_) <;> (conv => whnf) <;> (repeat' (first | exact True.intro | (with_reducible exact rfl) | exact (rfl : List.replicate 0 PV.bad = []) | ((with_reducible refine And.intro ?_ ?_) <;> (first | (with_reducible exact wkV_same _ rfl) | exact wkV_pt rfl rfl | exact wkV_ow rfl rfl rfl | (refine wkV_ow rfl rfl ?_) | (refine wkV_sc (congrArg (Value.int .i64) ?_)) | (refine wkV_sc (congrArg Value.bool ?_)) | exact wkV_ls rfl | ((refine wkV_cl ?_); conv => whnf) | ((refine wkV_tu ?_); conv => whnf) | ((refine wkV_ag ?_); conv => whnf) | (conv => whnf))))))
    all_goals first | rfl | (rw [hA0]; rfl) | trace_state
  intro i hi
  conv => whnf
  ((first | (with_reducible refine split_dec (fun h => ?_) (fun h => ?_)) | (with_reducible refine split_beq (fun h => ?_) (fun h => ?_)) | (with_reducible refine split_bne (fun h => ?_) (fun h => ?_)) | (with_reducible refine split_not (fun h => ?_) (fun h => ?_)) | (with_reducible refine split_beqS (fun h => ?_) (fun h => ?_)) | (with_reducible refine split_intro (fun h => ?_) (fun h => ?_))) <;> conv => whnf)
  · have hlt : i < n := by omega
    clear h
    have k := hk i hlt
    have hOi := hO i
    have hOil := hOl i
    have hAi1 := hA1 i
    have hAi2 := hA2 i
    have hAil := hAl i
    generalize hL : O i = L at *
    have hr := hro (i + 1)
    generalize hro1 : ro (i + 1) = ro1 at *
    ((try ((refine Exists.intro none ?_); (conv => whnf))); first | ((with_reducible refine call_by (k) ?_); conv => whnf))
    (refine Exists.intro _ (And.intro rfl (And.intro (by intro q _; simp only [List.length_nil]; omega) (And.intro (by intro i hi; exact absurd hi (Nat.not_lt_zero i)) ?_))); conv => whnf)
    ((first | (with_reducible refine split_dec (fun h => ?_) (fun h => ?_)) | (with_reducible refine split_beq (fun h => ?_) (fun h => ?_)) | (with_reducible refine split_bne (fun h => ?_) (fun h => ?_)) | (with_reducible refine split_not (fun h => ?_) (fun h => ?_)) | (with_reducible refine split_beqS (fun h => ?_) (fun h => ?_)) | (with_reducible refine split_intro (fun h => ?_) (fun h => ?_))) <;> conv => whnf)
    · ((first | (with_reducible refine split_dec (fun h => ?_) (fun h => ?_)) | (with_reducible refine split_beq (fun h => ?_) (fun h => ?_)) | (with_reducible refine split_bne (fun h => ?_) (fun h => ?_)) | (with_reducible refine split_not (fun h => ?_) (fun h => ?_)) | (with_reducible refine split_beqS (fun h => ?_) (fun h => ?_)) | (with_reducible refine split_intro (fun h => ?_) (fun h => ?_))) <;> conv => whnf)
      · exact absurd h (by rename_i h1 _; intro h2; rcases hr with hr | hr <;> simp_all)
      · clear h
        refine tri_forO mixed (by kernel_rfl) (fun k : Nat => k ≤ L.length) (fun k => [(15, iv k)]) (fun _ => [(3, c.enc), (7, (ak c id (ro i) (vo i) (w i) i).enc), (12, (ak c id ro1 (vo (i + 1)) (w (i + 1)) ((i + 1 : Nat) : Int)).enc)]) (fun _ => []) [] (fun k => L.length - k) 0 (Nat.zero_le _) ?_ ?_
        · conv => whnf
          (refine And.intro (And.intro (by with_unfolding_all rfl) (by intro q h; cases h)) ?_; refine And.intro ?_ (And.intro ?_ ?_) <;> (conv => whnf) <;> (repeat' (first | exact True.intro | (with_reducible exact rfl) | exact (rfl : List.replicate 0 PV.bad = []) | ((with_reducible refine And.intro ?_ ?_) <;> (first | (with_reducible exact wkV_same _ rfl) | exact wkV_pt rfl rfl | exact wkV_ow rfl rfl rfl | (refine wkV_ow rfl rfl ?_) | (refine wkV_sc (congrArg (Value.int .i64) ?_)) | (refine wkV_sc (congrArg Value.bool ?_)) | exact wkV_ls rfl | ((refine wkV_cl ?_); conv => whnf) | ((refine wkV_tu ?_); conv => whnf) | ((refine wkV_ag ?_); conv => whnf) | (conv => whnf))))))
          all_goals first | rfl | trace_state
        intro k hkl
        conv => whnf
        ((first | (with_reducible refine split_dec (fun h => ?_) (fun h => ?_)) | (with_reducible refine split_beq (fun h => ?_) (fun h => ?_)) | (with_reducible refine split_bne (fun h => ?_) (fun h => ?_)) | (with_reducible refine split_not (fun h => ?_) (fun h => ?_)) | (with_reducible refine split_beqS (fun h => ?_) (fun h => ?_)) | (with_reducible refine split_intro (fun h => ?_) (fun h => ?_))) <;> conv => whnf)
        · simp only [List.length_map] at h
          have hkl : k < L.length := by omega
          have hv := hOi (L[k]'hkl) (List.getElem_mem hkl)
          (first | ((with_reducible refine And.intro (by omega) (Exists.intro _ (And.intro (row_at hkl) ?_))); conv => whnf))
          (first | ((with_reducible refine And.intro (by omega) (Exists.intro _ (And.intro (row_at hkl) ?_))); conv => whnf))
          ((try ((refine Exists.intro none ?_); (conv => whnf))); first | ((with_reducible refine call_by (k3) ?_); conv => whnf))
          (first | ((with_reducible refine And.intro (by omega) (Exists.intro _ (And.intro (row_at hkl) ?_))); conv => whnf))
          have kv := kh (L[k]'hkl)
          rw [hv] at kv
          ((try ((refine Exists.intro none ?_); (conv => whnf))); first | ((with_reducible refine call_by (kv) ?_); conv => whnf))
          refine ⟨k + 1, [], ⟨by omega, by omega⟩, ?_⟩
          conv => whnf
          (refine And.intro (And.intro (by with_unfolding_all rfl) (by intro q h; cases h)) ?_; refine And.intro ?_ (And.intro ?_ ?_) <;> (conv => whnf) <;> (repeat' (first | exact True.intro | (with_reducible exact rfl) | exact (rfl : List.replicate 0 PV.bad = []) | ((with_reducible refine And.intro ?_ ?_) <;> (first | (with_reducible exact wkV_same _ rfl) | exact wkV_pt rfl rfl | exact wkV_ow rfl rfl rfl | (refine wkV_ow rfl rfl ?_) | (refine wkV_sc (congrArg (Value.int .i64) ?_)) | (refine wkV_sc (congrArg Value.bool ?_)) | exact wkV_ls rfl | ((refine wkV_cl ?_); conv => whnf) | ((refine wkV_tu ?_); conv => whnf) | ((refine wkV_ag ?_); conv => whnf) | (conv => whnf))))))
          all_goals first | rfl | exact w1 (by omega) | trace_state
        · clear h
          ((first | (with_reducible refine split_dec (fun h => ?_) (fun h => ?_)) | (with_reducible refine split_beq (fun h => ?_) (fun h => ?_)) | (with_reducible refine split_bne (fun h => ?_) (fun h => ?_)) | (with_reducible refine split_not (fun h => ?_) (fun h => ?_)) | (with_reducible refine split_beqS (fun h => ?_) (fun h => ?_)) | (with_reducible refine split_intro (fun h => ?_) (fun h => ?_))) <;> conv => whnf)
          · simp only [List.length_map] at h
            obtain ⟨e1, e2⟩ := hAi2 (by intro e; rw [e] at h; simp at h)
            have hc7 := count_le (bor c.full c.wit)
            have ew : IntKind.i64.wrap (count (bor c.full c.wit) - 1) = count (bor c.full c.wit) - 1 := wrap_id (by omega) (by omega)
            ((try ((refine Exists.intro none ?_); (conv => whnf))); first | ((with_reducible refine call_by (k3) ?_); conv => whnf))
            ((try ((refine Exists.intro none ?_); (conv => whnf))); first | ((with_reducible refine call_by (k4) ?_); conv => whnf))
            ((first | (with_reducible refine split_dec (fun h => ?_) (fun h => ?_)) | (with_reducible refine split_beq (fun h => ?_) (fun h => ?_)) | (with_reducible refine split_bne (fun h => ?_) (fun h => ?_)) | (with_reducible refine split_not (fun h => ?_) (fun h => ?_)) | (with_reducible refine split_beqS (fun h => ?_) (fun h => ?_)) | (with_reducible refine split_intro (fun h => ?_) (fun h => ?_))) <;> conv => whnf)
            · simp only [List.length_map, ew] at h
              exact absurd e2 (by omega)
            · refine ⟨i + 1, [], ⟨by omega, by omega⟩, ?_⟩
              rw [hro1, e1]
              conv => whnf
              (refine And.intro (And.intro (by with_unfolding_all rfl) (by intro q h; cases h)) ?_; refine And.intro ?_ (And.intro ?_ ?_) <;> (conv => whnf) <;> (repeat' (first | exact True.intro | (with_reducible exact rfl) | exact (rfl : List.replicate 0 PV.bad = []) | ((with_reducible refine And.intro ?_ ?_) <;> (first | (with_reducible exact wkV_same _ rfl) | exact wkV_pt rfl rfl | exact wkV_ow rfl rfl rfl | (refine wkV_ow rfl rfl ?_) | (refine wkV_sc (congrArg (Value.int .i64) ?_)) | (refine wkV_sc (congrArg Value.bool ?_)) | exact wkV_ls rfl | ((refine wkV_cl ?_); conv => whnf) | ((refine wkV_tu ?_); conv => whnf) | ((refine wkV_ag ?_); conv => whnf) | (conv => whnf))))))
              all_goals first | rfl | exact w1 (by omega) | trace_state
          · simp only [List.length_map] at h
            have e1 := hAi1 (List.length_eq_zero_iff.1 (by omega))
            refine ⟨i + 1, [], ⟨by omega, by omega⟩, ?_⟩
            rw [hro1, e1]
            conv => whnf
            (refine And.intro (And.intro (by with_unfolding_all rfl) (by intro q h; cases h)) ?_; refine And.intro ?_ (And.intro ?_ ?_) <;> (conv => whnf) <;> (repeat' (first | exact True.intro | (with_reducible exact rfl) | exact (rfl : List.replicate 0 PV.bad = []) | ((with_reducible refine And.intro ?_ ?_) <;> (first | (with_reducible exact wkV_same _ rfl) | exact wkV_pt rfl rfl | exact wkV_ow rfl rfl rfl | (refine wkV_ow rfl rfl ?_) | (refine wkV_sc (congrArg (Value.int .i64) ?_)) | (refine wkV_sc (congrArg Value.bool ?_)) | exact wkV_ls rfl | ((refine wkV_cl ?_); conv => whnf) | ((refine wkV_tu ?_); conv => whnf) | ((refine wkV_ag ?_); conv => whnf) | (conv => whnf))))))
            all_goals first | rfl | exact w1 (by omega) | trace_state
    · clear h
      refine tri_forO mixed (by kernel_rfl) (fun k : Nat => k ≤ L.length) (fun k => [(15, iv k)]) (fun _ => [(3, c.enc), (7, (ak c id (ro i) (vo i) (w i) i).enc), (12, (ak c id ro1 (vo (i + 1)) (w (i + 1)) ((i + 1 : Nat) : Int)).enc)]) (fun _ => []) [] (fun k => L.length - k) 0 (Nat.zero_le _) ?_ ?_
      · conv => whnf
        (refine And.intro (And.intro (by with_unfolding_all rfl) (by intro q h; cases h)) ?_; refine And.intro ?_ (And.intro ?_ ?_) <;> (conv => whnf) <;> (repeat' (first | exact True.intro | (with_reducible exact rfl) | exact (rfl : List.replicate 0 PV.bad = []) | ((with_reducible refine And.intro ?_ ?_) <;> (first | (with_reducible exact wkV_same _ rfl) | exact wkV_pt rfl rfl | exact wkV_ow rfl rfl rfl | (refine wkV_ow rfl rfl ?_) | (refine wkV_sc (congrArg (Value.int .i64) ?_)) | (refine wkV_sc (congrArg Value.bool ?_)) | exact wkV_ls rfl | ((refine wkV_cl ?_); conv => whnf) | ((refine wkV_tu ?_); conv => whnf) | ((refine wkV_ag ?_); conv => whnf) | (conv => whnf))))))
        all_goals first | rfl | trace_state
      intro k hkl
      conv => whnf
      ((first | (with_reducible refine split_dec (fun h => ?_) (fun h => ?_)) | (with_reducible refine split_beq (fun h => ?_) (fun h => ?_)) | (with_reducible refine split_bne (fun h => ?_) (fun h => ?_)) | (with_reducible refine split_not (fun h => ?_) (fun h => ?_)) | (with_reducible refine split_beqS (fun h => ?_) (fun h => ?_)) | (with_reducible refine split_intro (fun h => ?_) (fun h => ?_))) <;> conv => whnf)
      · simp only [List.length_map] at h
        have hkl : k < L.length := by omega
        have hv := hOi (L[k]'hkl) (List.getElem_mem hkl)
        (first | ((with_reducible refine And.intro (by omega) (Exists.intro _ (And.intro (row_at hkl) ?_))); conv => whnf))
        (first | ((with_reducible refine And.intro (by omega) (Exists.intro _ (And.intro (row_at hkl) ?_))); conv => whnf))
        ((try ((refine Exists.intro none ?_); (conv => whnf))); first | ((with_reducible refine call_by (k3) ?_); conv => whnf))
        (first | ((with_reducible refine And.intro (by omega) (Exists.intro _ (And.intro (row_at hkl) ?_))); conv => whnf))
        have kv := kh (L[k]'hkl)
        rw [hv] at kv
        ((try ((refine Exists.intro none ?_); (conv => whnf))); first | ((with_reducible refine call_by (kv) ?_); conv => whnf))
        refine ⟨k + 1, [], ⟨by omega, by omega⟩, ?_⟩
        conv => whnf
        (refine And.intro (And.intro (by with_unfolding_all rfl) (by intro q h; cases h)) ?_; refine And.intro ?_ (And.intro ?_ ?_) <;> (conv => whnf) <;> (repeat' (first | exact True.intro | (with_reducible exact rfl) | exact (rfl : List.replicate 0 PV.bad = []) | ((with_reducible refine And.intro ?_ ?_) <;> (first | (with_reducible exact wkV_same _ rfl) | exact wkV_pt rfl rfl | exact wkV_ow rfl rfl rfl | (refine wkV_ow rfl rfl ?_) | (refine wkV_sc (congrArg (Value.int .i64) ?_)) | (refine wkV_sc (congrArg Value.bool ?_)) | exact wkV_ls rfl | ((refine wkV_cl ?_); conv => whnf) | ((refine wkV_tu ?_); conv => whnf) | ((refine wkV_ag ?_); conv => whnf) | (conv => whnf))))))
        all_goals first | rfl | exact w1 (by omega) | trace_state
      · clear h
        ((first | (with_reducible refine split_dec (fun h => ?_) (fun h => ?_)) | (with_reducible refine split_beq (fun h => ?_) (fun h => ?_)) | (with_reducible refine split_bne (fun h => ?_) (fun h => ?_)) | (with_reducible refine split_not (fun h => ?_) (fun h => ?_)) | (with_reducible refine split_beqS (fun h => ?_) (fun h => ?_)) | (with_reducible refine split_intro (fun h => ?_) (fun h => ?_))) <;> conv => whnf)
        · simp only [List.length_map] at h
          obtain ⟨e1, e2⟩ := hAi2 (by intro e; rw [e] at h; simp at h)
          have hc7 := count_le (bor c.full c.wit)
          have ew : IntKind.i64.wrap (count (bor c.full c.wit) - 1) = count (bor c.full c.wit) - 1 := wrap_id (by omega) (by omega)
          ((try ((refine Exists.intro none ?_); (conv => whnf))); first | ((with_reducible refine call_by (k3) ?_); conv => whnf))
          ((try ((refine Exists.intro none ?_); (conv => whnf))); first | ((with_reducible refine call_by (k4) ?_); conv => whnf))
          ((first | (with_reducible refine split_dec (fun h => ?_) (fun h => ?_)) | (with_reducible refine split_beq (fun h => ?_) (fun h => ?_)) | (with_reducible refine split_bne (fun h => ?_) (fun h => ?_)) | (with_reducible refine split_not (fun h => ?_) (fun h => ?_)) | (with_reducible refine split_beqS (fun h => ?_) (fun h => ?_)) | (with_reducible refine split_intro (fun h => ?_) (fun h => ?_))) <;> conv => whnf)
          · simp only [List.length_map, ew] at h
            exact absurd e2 (by omega)
          · refine ⟨i + 1, [], ⟨by omega, by omega⟩, ?_⟩
            rw [hro1, e1]
            conv => whnf
            (refine And.intro (And.intro (by with_unfolding_all rfl) (by intro q h; cases h)) ?_; refine And.intro ?_ (And.intro ?_ ?_) <;> (conv => whnf) <;> (repeat' (first | exact True.intro | (with_reducible exact rfl) | exact (rfl : List.replicate 0 PV.bad = []) | ((with_reducible refine And.intro ?_ ?_) <;> (first | (with_reducible exact wkV_same _ rfl) | exact wkV_pt rfl rfl | exact wkV_ow rfl rfl rfl | (refine wkV_ow rfl rfl ?_) | (refine wkV_sc (congrArg (Value.int .i64) ?_)) | (refine wkV_sc (congrArg Value.bool ?_)) | exact wkV_ls rfl | ((refine wkV_cl ?_); conv => whnf) | ((refine wkV_tu ?_); conv => whnf) | ((refine wkV_ag ?_); conv => whnf) | (conv => whnf))))))
            all_goals first | rfl | exact w1 (by omega) | trace_state
        · simp only [List.length_map] at h
          have e1 := hAi1 (List.length_eq_zero_iff.1 (by omega))
          refine ⟨i + 1, [], ⟨by omega, by omega⟩, ?_⟩
          rw [hro1, e1]
          conv => whnf
          (refine And.intro (And.intro (by with_unfolding_all rfl) (by intro q h; cases h)) ?_; refine And.intro ?_ (And.intro ?_ ?_) <;> (conv => whnf) <;> (repeat' (first | exact True.intro | (with_reducible exact rfl) | exact (rfl : List.replicate 0 PV.bad = []) | ((with_reducible refine And.intro ?_ ?_) <;> (first | (with_reducible exact wkV_same _ rfl) | exact wkV_pt rfl rfl | exact wkV_ow rfl rfl rfl | (refine wkV_ow rfl rfl ?_) | (refine wkV_sc (congrArg (Value.int .i64) ?_)) | (refine wkV_sc (congrArg Value.bool ?_)) | exact wkV_ls rfl | ((refine wkV_cl ?_); conv => whnf) | ((refine wkV_tu ?_); conv => whnf) | ((refine wkV_ag ?_); conv => whnf) | (conv => whnf))))))
          all_goals first | rfl | exact w1 (by omega) | trace_state
  · have ei : i = n := by omega
    subst ei
    cases vt with
    | false =>
      have e := hf.1 rfl
      have e : ((A i : Nat) : Int) = 0 := by omega
      conv => whnf
      ((first | (with_reducible refine split_dec (fun h => ?_) (fun h => ?_)) | (with_reducible refine split_beq (fun h => ?_) (fun h => ?_)) | (with_reducible refine split_bne (fun h => ?_) (fun h => ?_)) | (with_reducible refine split_not (fun h => ?_) (fun h => ?_)) | (with_reducible refine split_beqS (fun h => ?_) (fun h => ?_)) | (with_reducible refine split_intro (fun h => ?_) (fun h => ?_))) <;> conv => whnf)
      · ((try ((refine Exists.intro none ?_); (conv => whnf))); first | ((with_reducible refine call_by (c_wakes18) ?_); conv => whnf))
        exact exit_plain rfl rfl
      · exact absurd e (by first | exact h | (simpa using h))
    | true =>
      obtain ⟨e1, e2⟩ := hf.2 rfl
      ((try ((refine Exists.intro none ?_); (conv => whnf))); first | ((with_reducible refine call_by (k8) ?_); conv => whnf))
      refine ⟨⟨e1, by decide⟩, ?_⟩
      conv => whnf
      ((first | (with_reducible refine split_dec (fun h => ?_) (fun h => ?_)) | (with_reducible refine split_beq (fun h => ?_) (fun h => ?_)) | (with_reducible refine split_bne (fun h => ?_) (fun h => ?_)) | (with_reducible refine split_not (fun h => ?_) (fun h => ?_)) | (with_reducible refine split_beqS (fun h => ?_) (fun h => ?_)) | (with_reducible refine split_intro (fun h => ?_) (fun h => ?_))) <;> conv => whnf)
      · ((try ((refine Exists.intro none ?_); (conv => whnf))); first | ((with_reducible refine call_by (c_wakes18) ?_); conv => whnf))
        exact exit_plain rfl rfl
      · have hh := hAl i
        rw [← e2, wrap_id (by omega) (by omega)] at h
        exact absurd rfl h
theorem hasB_bitB {n : Nat} (hn : n < 7) (b : Int) : hasB b n = bitB b n := by
  rw [hasB_nat b n (by omega), bitB_tb hn]
theorem l_Asking (c : Conf) (k n : Nat) (hn : n ≤ 200) (hc' : confB c = true) (hk : k < 7) (h2 : 2 ≤ count (bor c.full c.wit)) : Ctr Try.prog 3 [.ag c.enc, iv k, iv n] (bv true) [] := by
  cases hv : bitB (bor c.full c.wit) k with
  | false =>
    have hd := delay_n hk hv
    refine w_Asking c k n hn hc' (by omega) h2 (fun _ => 0) (fun _ => 0) (fun _ => 0) (fun _ => []) (fun _ => 0) ?_ ?_ (fun _ => .inl rfl) (fun _ v h => by cases h) (fun _ => Nat.zero_le _) rfl (fun _ _ => rfl) (fun _ h => absurd rfl h) (fun _ => Nat.zero_le _) ⟨fun _ => rfl, fun h => ?_⟩
    · show ak c k 0 0 (delay c k) 0 = _
      rw [hd]; rfl
    · intro i hi
      have hr : rightB (ak c k 0 0 0 i) = true := ak_right hc' (by omega) (by decide) (by decide) (by decide) (by decide) (by omega)
      have t := c_Tick (ak c k 0 0 0 i) hr (by show 0 < 4294967; decide) (by show (0 : Int) ≠ 3; decide)
      obtain ⟨e1, e2⟩ := tick_n hv 0 0 0 i
      rw [e1, e2, show farM ((i : Int) + 1) = ((i + 1 : Nat) : Int) from if_neg (by omega)] at t
      exact t
    · rw [hasB_bitB hk, hv] at h; cases h
  | true =>
    have hdv := delay_v hk hv
    obtain ⟨d, hd⟩ : ∃ d : Nat, delay c k = d := ⟨(delay c k).toNat, by omega⟩
    rw [hd] at hdv
    have hcnt := othN_cnt k (bor c.full c.wit) 7
    rw [if_pos ⟨hk, by rw [← bitB_tb hk]; exact hv⟩] at hcnt
    refine w_Asking c k n hn hc' (by omega) h2 (roI d) (voI k d) (wI d) (oI c k d) (fun i => i / d) ?_ ?_ ?_ ?_ ?_ (Nat.zero_div d) ?_ ?_ (fun i => Nat.div_le_self i d) ⟨fun h => ?_, fun _ => ⟨by rw [hd]; omega, ?_⟩⟩
    · show ak c k 0 0 (delay c k) 0 = _
      rw [hd]
      unfold roI voI wI
      rw [Nat.zero_div, Nat.zero_mod, if_pos rfl, if_pos rfl, show (d : Int) - ((0 : Nat) : Int) = d by omega]; rfl
    · intro i hi
      have t := c_Tick _ (apart_right hc' hk (d := d) (by omega) (i := i) (by omega)) (by show 0 < 4294967; decide) (by show roI d i ≠ 3; unfold roI; split <;> decide)
      obtain ⟨e1, e2⟩ := apart_v hk h2 hv hd i
      rw [e1, e2, show farM ((i : Int) + 1) = ((i + 1 : Nat) : Int) from if_neg (by omega)] at t
      exact t
    · intro i; unfold roI; split
      · exact .inl rfl
      · exact .inr rfl
    · intro i v h
      unfold oI at h
      split at h
      · obtain ⟨j, rfl, hj, ht⟩ := othN_tb h
        rw [hasB_nat _ j (by omega)]; exact ht
      · cases h
    · intro i; unfold oI; split
      · exact othN_len ..
      · exact Nat.zero_le _
    · intro i h
      rcases step_dm i d (by omega) with ⟨_, _, e3⟩ | ⟨e1, _, _⟩
      · exact e3
      · unfold oI at h
        rw [if_pos e1] at h
        rw [h] at hcnt
        have : ((([] : List Int).length : Nat) : Int) = count (bor c.full c.wit) - 1 := hcnt
        simp only [List.length_nil] at this
        omega
    · intro i h
      rcases step_dm i d (by omega) with ⟨e1, _, _⟩ | ⟨e1, _, e3⟩
      · exfalso; apply h
        unfold oI
        rw [if_neg (by generalize i % d = q at *; omega)]
      · refine ⟨e3, ?_⟩
        unfold oI
        rw [if_pos e1]; exact hcnt
    · rw [hasB_bitB hk, hv] at h; cases h
    · rw [hd]; exact (Int.ofNat_tdiv n d).symm
set_option maxHeartbeats 2000000 in
theorem e_Asking (c : Conf) (id n : Int) (hg : ¬ (confB c = true ∧ withinB id 0 6 = true ∧ (0 ≤ n ∧ n ≤ 200) ∧ 2 ≤ count (bor c.full c.wit))) : Ctr Try.prog 3 [.ag c.enc, iv id, iv n] (bv true) [] := by
  have k1 := c_rConf c
  have k2 := c_Node id
  have k3 := c_rVoters c
  have k4 := c_rCount (bor c.full c.wit)
  cases hc : confB c with
  | false =>
    rw [hc] at k1
    refine spec_of_body mixed Try.func3 rfl (by kernel_rfl) (by kernel_rfl) ?_; conv => whnf
    ((try ((refine Exists.intro none ?_); (conv => whnf))); first | ((with_reducible refine call_by (k1) ?_); conv => whnf))
    exact exit_plain rfl rfl
  | true =>
    rw [hc] at k1
    cases hi : withinB id 0 6 with
    | false =>
      rw [hi] at k2
      refine spec_of_body mixed Try.func3 rfl (by kernel_rfl) (by kernel_rfl) ?_; conv => whnf
      ((try ((refine Exists.intro none ?_); (conv => whnf))); first | ((with_reducible refine call_by (k1) ?_); conv => whnf))
      ((try ((refine Exists.intro none ?_); (conv => whnf))); first | ((with_reducible refine call_by (k2) ?_); conv => whnf))
      exact exit_plain rfl rfl
    | true =>
      rw [hi] at k2
      refine spec_of_body mixed Try.func3 rfl (by kernel_rfl) (by kernel_rfl) ?_; conv => whnf
      ((try ((refine Exists.intro none ?_); (conv => whnf))); first | ((with_reducible refine call_by (k1) ?_); conv => whnf))
      ((try ((refine Exists.intro none ?_); (conv => whnf))); first | ((with_reducible refine call_by (k2) ?_); conv => whnf))
      ((first | (with_reducible refine split_dec (fun h => ?_) (fun h => ?_)) | (with_reducible refine split_beq (fun h => ?_) (fun h => ?_)) | (with_reducible refine split_bne (fun h => ?_) (fun h => ?_)) | (with_reducible refine split_not (fun h => ?_) (fun h => ?_)) | (with_reducible refine split_beqS (fun h => ?_) (fun h => ?_)) | (with_reducible refine split_intro (fun h => ?_) (fun h => ?_))) <;> conv => whnf)
      · exact exit_plain rfl rfl
      · have h1 := h
        clear h
        ((first | (with_reducible refine split_dec (fun h => ?_) (fun h => ?_)) | (with_reducible refine split_beq (fun h => ?_) (fun h => ?_)) | (with_reducible refine split_bne (fun h => ?_) (fun h => ?_)) | (with_reducible refine split_not (fun h => ?_) (fun h => ?_)) | (with_reducible refine split_beqS (fun h => ?_) (fun h => ?_)) | (with_reducible refine split_intro (fun h => ?_) (fun h => ?_))) <;> conv => whnf)
        · exact exit_plain rfl rfl
        · have h2 := h
          clear h
          ((try ((refine Exists.intro none ?_); (conv => whnf))); first | ((with_reducible refine call_by (k3) ?_); conv => whnf))
          ((try ((refine Exists.intro none ?_); (conv => whnf))); first | ((with_reducible refine call_by (k4) ?_); conv => whnf))
          ((first | (with_reducible refine split_dec (fun h => ?_) (fun h => ?_)) | (with_reducible refine split_beq (fun h => ?_) (fun h => ?_)) | (with_reducible refine split_bne (fun h => ?_) (fun h => ?_)) | (with_reducible refine split_not (fun h => ?_) (fun h => ?_)) | (with_reducible refine split_beqS (fun h => ?_) (fun h => ?_)) | (with_reducible refine split_intro (fun h => ?_) (fun h => ?_))) <;> conv => whnf)
          · exact exit_plain rfl rfl
          · exact absurd ⟨hc, hi, ⟨by omega, by omega⟩, by omega⟩ hg
theorem told_RaftAsking (qs : List PV) (h : ArgsOf Try.prog [23, 3, 3] qs) : Ctr Try.prog 3 qs (bv true) [] := by
  obtain ⟨p1, qs, rfl, h1, h⟩ := argsOf_cons h
  obtain ⟨p2, qs, rfl, h2, h⟩ := argsOf_cons h
  obtain ⟨p3, qs, rfl, h3, h⟩ := argsOf_cons h
  obtain rfl := argsOf_nil h
  obtain ⟨c, rfl, _⟩ := arg_Conf h1
  obtain ⟨id, rfl, _⟩ := arg_i h2
  obtain ⟨n, rfl, _⟩ := arg_i h3
  by_cases hg : confB c = true ∧ withinB id 0 6 = true ∧ (0 ≤ n ∧ n ≤ 200) ∧ 2 ≤ count (bor c.full c.wit)
  · obtain ⟨g1, g2, ⟨g3, g4⟩, g5⟩ := hg
    have hi : 0 ≤ id ∧ id ≤ 6 := by simpa [withinB] using g2
    obtain ⟨k, rfl⟩ : ∃ k : Nat, id = k := ⟨id.toNat, by omega⟩
    obtain ⟨q, rfl⟩ : ∃ q : Nat, n = q := ⟨n.toNat, by omega⟩
    exact l_Asking c k q (by omega) g1 (by omega) g5
  · exact e_Asking c id n hg
end Go.Proofs
