import Derived.Test.YtbhfokahocgndaaGreatF2
import Derived.Test.YtbhfokahocgndaaGreatK1
import Derived.Test.YtbhfokahocgndaaGreatC67
import Derived.Test.YtbhfokahocgndaaGreatC22
import Derived.Test.YtbhfokahocgndaaGreatC10
set_option linter.unusedSimpArgs false
set_option linter.unusedVariables false
namespace Go.Proofs
open Go.Pv
set_option maxRecDepth 100000

theorem arg_Calls {p : PV} (h : ArgOf Tryz.prog 60 p) : ∃ xs : List VCall, p = .sl 10 (xs.map VCall.enc) ∧ xs.length ≤ maxLen := by
  obtain ⟨rows, e, hl, hr⟩ := ty_slice (e := 38) 10 (by kernel_rfl) (by kernel_rfl) (by decide) (argOf_one (by kernel_rfl) h)
  cases e
  obtain ⟨xs, rfl, hx⟩ := rows_map (f := VCall.enc) (ok := VCall.ok) fun r hr' => ty_VCall (hr r hr')
  exact ⟨xs, rfl, by simpa using hl⟩
theorem et_entry : entryB ⟨1, 0, kz, cz⟩ = true := by
  unfold entryB
  rw [if_pos rfl]
  rfl
structure St where
  l : List Ent
  cm : Int
  lead : Int
  w : Int
  q : Int
structure StOk (n : Nat) (b : St) : Prop where
  l : okL b.l
  len : b.l.length ≤ n
  cm : 0 ≤ b.cm ∧ b.cm ≤ b.l.length
  lead : -1 ≤ b.lead ∧ b.lead < 7
  w : 0 ≤ b.w ∧ b.w ≤ 100
  q : 0 ≤ b.q ∧ b.q ≤ 1099511627776
set_option maxHeartbeats 8000000 in
theorem l_Follows (c : Conf) (id frm : Int) (n : Nat) (cl : List VCall) (hc' : confB c = true) (hid : 0 ≤ id ∧ id < 7) (hfr : 0 ≤ frm ∧ frm < 7) (hne : frm ≠ id) (hn : n ≤ 100) (hcl : cl.length ≤ 100) :
    Ctr Tryz.prog 4 [.ag c.enc, iv id, iv frm, iv n, .sl 10 (cl.map VCall.enc)] (bv true) [] := by
  have k1 := c_rConf c
  have k2 := c_Node id
  have k3 := c_Node frm
  have k4 := c_rBegin c
  have k5 := c_New id hid (h1c c []) (by show 0 ≤ 4294967; decide) (h1_hard hc' okL_nil)
  rw [hc'] at k1
  rw [show withinB id 0 6 = true by simp [withinB]; omega] at k2
  rw [show withinB frm 0 6 = true by simp [withinB]; omega] at k3
  have hw0 := delay_fit (inForce (new0 id (h1c c []))) hid
  rw [show newR id (h1c c []) = fl c id [] 0 (-1) (delay (inForce (new0 id (h1c c []))) id) 0 from rfl] at k5
  generalize delay (inForce (new0 id (h1c c []))) id = w0 at *
  refine spec_of_body mixed Tryz.func4 rfl (by kernel_rfl) (by kernel_rfl) ?_; conv => whnf
  ((try ((refine Exists.intro none ?_); (conv => whnf))); first | ((with_reducible refine call_by (k1) ?_); conv => whnf))
  ((try ((refine Exists.intro none ?_); (conv => whnf))); first | ((with_reducible refine call_by (k2) ?_); conv => whnf))
  ((try ((refine Exists.intro none ?_); (conv => whnf))); first | ((with_reducible refine call_by (k3) ?_); conv => whnf))
  ((first | (with_reducible refine split_dec (fun h => ?_) (fun h => ?_)) | (with_reducible refine split_beq (fun h => ?_) (fun h => ?_)) | (with_reducible refine split_bne (fun h => ?_) (fun h => ?_)) | (with_reducible refine split_not (fun h => ?_) (fun h => ?_)) | (with_reducible refine split_beqS (fun h => ?_) (fun h => ?_)) | (with_reducible refine split_intro (fun h => ?_) (fun h => ?_))) <;> conv => whnf)
  · exact absurd (by first | exact h | exact h.symm) hne
  clear h
  ((first | (with_reducible refine split_dec (fun h => ?_) (fun h => ?_)) | (with_reducible refine split_beq (fun h => ?_) (fun h => ?_)) | (with_reducible refine split_bne (fun h => ?_) (fun h => ?_)) | (with_reducible refine split_not (fun h => ?_) (fun h => ?_)) | (with_reducible refine split_beqS (fun h => ?_) (fun h => ?_)) | (with_reducible refine split_intro (fun h => ?_) (fun h => ?_))) <;> conv => whnf)
  · exact absurd h (by omega)
  clear h
  ((first | (with_reducible refine split_dec (fun h => ?_) (fun h => ?_)) | (with_reducible refine split_beq (fun h => ?_) (fun h => ?_)) | (with_reducible refine split_bne (fun h => ?_) (fun h => ?_)) | (with_reducible refine split_not (fun h => ?_) (fun h => ?_)) | (with_reducible refine split_beqS (fun h => ?_) (fun h => ?_)) | (with_reducible refine split_intro (fun h => ?_) (fun h => ?_))) <;> conv => whnf)
  · simp only [List.length_map] at h
    omega
  clear h
  ((try ((refine Exists.intro none ?_); (conv => whnf))); first | ((with_reducible refine call_by (k4) ?_); conv => whnf))
  ((try ((refine Exists.intro none ?_); (conv => whnf))); refine call_deep (k5) (by (repeat' (first | exact subVL_nil | exact subVR_nil | refine subVL_cons ?_ ?_ | refine subVR_cons ?_ ?_ | exact SubV.refl _ | exact subV_nl | (with_reducible exact subV_tk rfl) | refine subV_ag ?_ | refine subV_sl ?_ | refine subV_ep ?_))) ?_; conv => whnf)
  (refine Exists.intro _ (And.intro rfl (And.intro (by intro q _; simp only [List.length_nil]; omega) (And.intro (by intro i hi; exact absurd hi (Nat.not_lt_zero i)) ?_))); conv => whnf)
  ((try ((refine Exists.intro none ?_); (conv => whnf))); first | ((with_reducible refine call_by (k4) ?_); conv => whnf))
  refine tri_bornB 14 9 5000 16 _ rfl rfl rfl ?_
  conv => whnf
  refine tri_forO mixed (by kernel_rfl) (fun b : St => StOk n b) (fun b => [(15, iv b.l.length)]) (fun b => [(5, c.enc), (11, [iv 1, iv (-1), iv 0, iv 0, iv c.full, iv c.wit, iv c.learn, iv c.lwit, .nl, .nl]), (12, (fl c id b.l b.cm b.lead b.w b.q).enc), (14, [iv 1, iv (-1), iv 0, iv 0, iv c.full, iv c.wit, iv c.learn, iv c.lwit, .nl, .ow 5000 0 (b.l.map Ent.enc).length])]) (fun b => [(5000, some (false, 16, b.l.map Ent.enc))]) [(5000, 5000)] (fun b => n - b.l.length) ⟨[], 0, -1, w0, 0⟩ ⟨okL_nil, Nat.zero_le _, by show (0 : Int) ≤ 0 ∧ (0 : Int) ≤ 0; omega, by show (-1 : Int) ≤ -1 ∧ (-1 : Int) < 7; omega, by show 0 ≤ w0 ∧ w0 ≤ 100; omega, by show (0 : Int) ≤ 0 ∧ (0 : Int) ≤ 1099511627776; omega⟩ ?_ ?_
  · conv => whnf
    (refine And.intro (And.intro (by with_unfolding_all rfl) (by intro q h; cases h)) ?_; refine And.intro ?_ (And.intro ?_ ?_) <;> (conv => whnf) <;> (repeat' (first | exact True.intro | (with_reducible exact rfl) | exact (rfl : List.replicate 0 PV.bad = []) | ((with_reducible refine And.intro ?_ ?_) <;> (first | (with_reducible exact wkV_same _ rfl) | exact wkV_pt rfl rfl | exact wkV_ow rfl rfl rfl | (refine wkV_ow rfl rfl ?_) | (refine wkV_sc (congrArg (Value.int .i64) ?_)) | (refine wkV_sc (congrArg Value.bool ?_)) | exact wkV_ls rfl | ((refine wkV_cl ?_); conv => whnf) | ((refine wkV_tu ?_); conv => whnf) | ((refine wkV_ag ?_); conv => whnf) | (conv => whnf))))))
    all_goals first | rfl | trace_state
  rintro ⟨l, cm, lead, w, q⟩ ⟨ol, oln, ocm, ole, ow, oq⟩
  simp only at ol oln ocm ole ow oq
  have b1 : ((l.map Ent.enc).length + 1) * 152 ≤ 140737488355328 := by rw [List.length_map]; omega
  have b2 : (l.map Ent.enc).length + 1 ≤ maxLen := smallM (by rw [List.length_map]; omega)
  conv => whnf
  ((first | (with_reducible refine split_dec (fun h => ?_) (fun h => ?_)) | (with_reducible refine split_beq (fun h => ?_) (fun h => ?_)) | (with_reducible refine split_bne (fun h => ?_) (fun h => ?_)) | (with_reducible refine split_not (fun h => ?_) (fun h => ?_)) | (with_reducible refine split_beqS (fun h => ?_) (fun h => ?_)) | (with_reducible refine split_intro (fun h => ?_) (fun h => ?_))) <;> conv => whnf)
  · have h : ((l.length : Nat) : Int) < (n : Int) := h
    have hlt : l.length < n := by omega
    clear h
    ((first | (with_reducible refine split_dec (fun h => ?_) (fun h => ?_)) | (with_reducible refine split_beq (fun h => ?_) (fun h => ?_)) | (with_reducible refine split_bne (fun h => ?_) (fun h => ?_)) | (with_reducible refine split_not (fun h => ?_) (fun h => ?_)) | (with_reducible refine split_beqS (fun h => ?_) (fun h => ?_)) | (with_reducible refine split_intro (fun h => ?_) (fun h => ?_))) <;> conv => whnf)
    · have h : ((l.length : Nat) : Int) < (((cl.map VCall.enc).length : Nat) : Int) := h
      rw [List.length_map] at h
      have hlc : l.length < cl.length := by omega
      clear h
      have ke := c_rEntry ⟨0, 1, cl[l.length]'hlc, cz⟩
      have hE : entryB ⟨0, 1, cl[l.length]'hlc, cz⟩ = entryB ⟨1, 1, cl[l.length]'hlc, cz⟩ := rfl
      have hrow : (cl.map VCall.enc)[((l.length : Nat) : Int).toNat]? = some (cl[l.length]'hlc).enc := row_at hlc
      generalize cl[l.length]'hlc = z at *
      refine ⟨Int.natCast_nonneg _, _, hrow, ?_⟩
      conv => whnf
      cases hz : entryB ⟨0, 1, z, cz⟩ with
      | true =>
        rw [hz] at ke hE
        ((try ((refine Exists.intro none ?_); (conv => whnf))); first | ((with_reducible refine call_by (ke) ?_); conv => whnf))
        refine ⟨Int.natCast_nonneg _, _, hrow, ?_⟩
        conv => whnf
        have hx1 : (⟨1, 1, z, cz⟩ : Ent).term = 1 := rfl
        have hx2 := hE.symm
        generalize hX : (⟨1, 1, z, cz⟩ : Ent) = x at hx1 hx2
        have hxe : (⟨1, 1, z, cz⟩ : Ent).enc = x.enc := by rw [hX]
        have hll : (l ++ [x]).length = l.length + 1 := by rw [List.length_append]; rfl
        have okx := okL_snoc ol hx1 hx2
        have hnx : (((l ++ [x]).map Ent.enc).length : Int) = (l.length : Int) + 1 := by rw [List.length_map, hll]; omega
        have kf := c_rFeedE c okx (l := l) (x := x) (by omega)
        rw [← hnx] at kf
        have hrows : List.take (l.map Ent.enc).length (l.map Ent.enc) ++ [(⟨1, 1, z, cz⟩ : Ent).enc] = (l ++ [x]).map Ent.enc := by
          rw [hxe, List.take_of_length_le (Nat.le_refl _), List.map_append]; rfl
        have hlens : (l.map Ent.enc).length + [(⟨1, 1, z, cz⟩ : Ent).enc].length = ((l ++ [x]).map Ent.enc).length := by
          rw [List.length_map, List.length_map, hll]; rfl
        (refine And.intro rfl ?_; (conv => whnf); refine And.intro (And.intro (And.intro (by kernel_rfl) (And.intro (Nat.le_refl _) (And.intro (b1) (And.intro (b2) (by intro r hr; rw [List.mem_singleton.1 hr]; rfl))))) (And.intro (by decide) rfl)) ?_; conv => whnf)
        rw [hrows, hlens]
        ((refine Exists.intro (some ([], [(1000000, 1504)], [(1, 1600)])) ?_); (conv => whnf); refine callE_eq (kf) (by kernel_rfl) (by kernel_rfl) (by kernel_rfl) ?_; conv => whnf)
        have one : One c id l frm x ⟨5, frm, id, 1, l.length, lt1 l, l.length, l.length, false, [x], cz, [], []⟩ := ⟨rfl, rfl, rfl, rfl, rfl, rfl, rfl, rfl, rfl⟩
        obtain ⟨w', hw', k29⟩ := c_Take_one hc' hid ol (by omega) hfr hne hx1 hx2 ocm ole ow oq one
        ((try ((refine Exists.intro none ?_); (conv => whnf))); (first | (with_reducible refine And.intro (Nat.le_of_eq (Nat.zero_add _)) ?_) | (refine And.intro (by simp only [List.length_map, List.length_set, Nat.zero_add]; omega) ?_)); conv => whnf)
        ((try ((refine Exists.intro none ?_); (conv => whnf))); refine call_deep (k29) (by (repeat' (first | exact subVL_nil | exact subVR_nil | refine subVL_cons ?_ ?_ | refine subVR_cons ?_ ?_ | exact SubV.refl _ | exact subV_nl | (with_reducible exact subV_tk rfl) | refine subV_ag ?_ | refine subV_sl ?_ | refine subV_ep ?_))) ?_; conv => whnf)
        (refine Exists.intro _ (And.intro rfl (And.intro (by intro q _; simp only [List.length_nil]; omega) (And.intro (by intro i hi; exact absurd hi (Nat.not_lt_zero i)) ?_))); conv => whnf)
        have hi1 : (l.length : Int) + 1 = IntKind.i64.wrap ((l.length : Int) + 1) := (wrap_id (by omega) (by omega)).symm
        have hi2 : (l.length : Int) = (l.length : Int) := rfl
        have hdf := delay_fit (inForce (setH (fl c id l cm lead w q) (h1c c (l ++ [x])) l.length)) hid
        rw [← hw'] at hdf
        obtain ⟨w2, hw2, e1, e2⟩ := tick_heard hid (l := l ++ [x]) (cm := l.length) (frm := frm) (w := w') hw'
        have k30 := c_Tick (fl c id (l ++ [x]) l.length frm w' 0) (fl_right hc' okx (by omega) hid (by omega) (by omega) (by omega) (by omega)) (by show (l ++ [x]).length < _; omega) (by show (0 : Int) ≠ 3; decide)
        rw [e1, e2] at k30
        have ks := s_Entries (l ++ [x]) (smallM (by omega))
        clear k29 e1 e2 hw' hdf
        refine ⟨by decide, _, rfl, ?_⟩
        conv => whnf
        refine ⟨by decide, _, rfl, ?_⟩
        conv => whnf
        (first | (with_reducible refine split_dt (by first | assumption | omega) ?_) | (with_reducible refine split_df (by first | assumption | omega) ?_) | (with_reducible refine split_et (by first | assumption | omega) ?_) | (with_reducible refine split_ef (by first | assumption | omega) ?_) | (with_reducible refine split_bt (by first | assumption | omega) ?_) | (with_reducible refine split_bf (by first | assumption | omega) ?_) | (with_reducible refine split_nt (by assumption) ?_) | (with_reducible refine split_nf (by assumption) ?_) | (with_reducible refine split_t (by assumption) ?_) | (with_reducible refine split_f (by assumption) ?_))
        conv => whnf
        refine ⟨by decide, _, rfl, ?_⟩
        conv => whnf
        (first | (with_reducible refine split_dt (by first | assumption | omega) ?_) | (with_reducible refine split_df (by first | assumption | omega) ?_) | (with_reducible refine split_et (by first | assumption | omega) ?_) | (with_reducible refine split_ef (by first | assumption | omega) ?_) | (with_reducible refine split_bt (by first | assumption | omega) ?_) | (with_reducible refine split_bf (by first | assumption | omega) ?_) | (with_reducible refine split_nt (by assumption) ?_) | (with_reducible refine split_nf (by assumption) ?_) | (with_reducible refine split_t (by assumption) ?_) | (with_reducible refine split_f (by assumption) ?_))
        conv => whnf
        (first | (with_reducible refine split_dt (by first | assumption | omega) ?_) | (with_reducible refine split_df (by first | assumption | omega) ?_) | (with_reducible refine split_et (by first | assumption | omega) ?_) | (with_reducible refine split_ef (by first | assumption | omega) ?_) | (with_reducible refine split_bt (by first | assumption | omega) ?_) | (with_reducible refine split_bf (by first | assumption | omega) ?_) | (with_reducible refine split_nt (by assumption) ?_) | (with_reducible refine split_nf (by assumption) ?_) | (with_reducible refine split_t (by assumption) ?_) | (with_reducible refine split_f (by assumption) ?_))
        conv => whnf
        ((first | (with_reducible refine split_et rfl ?_) | (with_reducible refine split_bf rfl ?_) | (with_reducible refine split_t (beq_self_eq_true _) ?_) | (with_reducible refine split_f (bne_self_eq_false _) ?_)); conv => whnf)
        ((try ((refine Exists.intro none ?_); (conv => whnf))); first | ((with_reducible refine call_by (k30) ?_); conv => whnf))
        (refine Exists.intro _ (And.intro rfl (And.intro (by intro q _; simp only [List.length_nil]; omega) (And.intro (by intro i hi; exact absurd hi (Nat.not_lt_zero i)) ?_))); conv => whnf)
        ((try ((refine Exists.intro none ?_); (conv => whnf))); (first | (with_reducible refine And.intro (Nat.le_of_eq (Nat.zero_add _)) ?_) | (refine And.intro (by simp only [List.length_map, List.length_set, Nat.zero_add]; omega) ?_)); conv => whnf)
        refine call_eq ks (by simp only [List.drop_zero, List.take_length] <;> kernel_rfl) ?_
        conv => whnf
        refine ⟨⟨l ++ [x], l.length, frm, w2, 1⟩, [(5000, 1504)], ⟨⟨okx, by show (l ++ [x]).length ≤ n; omega, by show (0 : Int) ≤ l.length ∧ (l.length : Int) ≤ ((l ++ [x]).length : Nat); omega, by show -1 ≤ frm ∧ frm < 7; omega, hw2, by show (0 : Int) ≤ 1 ∧ (1 : Int) ≤ 1099511627776; decide⟩, by show n - (l ++ [x]).length < n - l.length; omega⟩, ?_⟩
        conv => whnf
        (refine And.intro (And.intro (by with_unfolding_all rfl) (by intro q h; cases h)) ?_; refine And.intro ?_ (And.intro ?_ ?_) <;> (conv => whnf) <;> (repeat' (first | exact True.intro | (with_reducible exact rfl) | exact (rfl : List.replicate 0 PV.bad = []) | ((with_reducible refine And.intro ?_ ?_) <;> (first | (with_reducible exact wkV_same _ rfl) | exact wkV_pt rfl rfl | exact wkV_ow rfl rfl rfl | (refine wkV_ow rfl rfl ?_) | (refine wkV_sc (congrArg (Value.int .i64) ?_)) | (refine wkV_sc (congrArg Value.bool ?_)) | exact wkV_ls rfl | ((refine wkV_cl ?_); conv => whnf) | ((refine wkV_tu ?_); conv => whnf) | ((refine wkV_ag ?_); conv => whnf) | (conv => whnf))))))
        all_goals first | rfl | (show IntKind.i64.wrap ((l.length : Int) + 1) = ((l ++ [x]).length : Nat); rw [← hi1, hll]; omega) | trace_state
      | false =>
        rw [hz] at ke
        ((try ((refine Exists.intro none ?_); (conv => whnf))); first | ((with_reducible refine call_by (ke) ?_); conv => whnf))
        have hx1 : (⟨1, 0, kz, cz⟩ : Ent).term = 1 := rfl
        have hx2 : entryB ⟨1, 0, kz, cz⟩ = true := et_entry
        generalize hX : (⟨1, 0, kz, cz⟩ : Ent) = x at hx1 hx2
        have hxe : (⟨1, 0, kz, cz⟩ : Ent).enc = x.enc := by rw [hX]
        have hll : (l ++ [x]).length = l.length + 1 := by rw [List.length_append]; rfl
        have okx := okL_snoc ol hx1 hx2
        have hnx : (((l ++ [x]).map Ent.enc).length : Int) = (l.length : Int) + 1 := by rw [List.length_map, hll]; omega
        have kf := c_rFeedE c okx (l := l) (x := x) (by omega)
        rw [← hnx] at kf
        have hrows : List.take (l.map Ent.enc).length (l.map Ent.enc) ++ [(⟨1, 0, kz, cz⟩ : Ent).enc] = (l ++ [x]).map Ent.enc := by
          rw [hxe, List.take_of_length_le (Nat.le_refl _), List.map_append]; rfl
        have hlens : (l.map Ent.enc).length + [(⟨1, 0, kz, cz⟩ : Ent).enc].length = ((l ++ [x]).map Ent.enc).length := by
          rw [List.length_map, List.length_map, hll]; rfl
        (refine And.intro rfl ?_; (conv => whnf); refine And.intro (And.intro (And.intro (by kernel_rfl) (And.intro (Nat.le_refl _) (And.intro (b1) (And.intro (b2) (by intro r hr; rw [List.mem_singleton.1 hr]; rfl))))) (And.intro (by decide) rfl)) ?_; conv => whnf)
        rw [hrows, hlens]
        ((refine Exists.intro (some ([], [(1000000, 1504)], [(1, 1600)])) ?_); (conv => whnf); refine callE_eq (kf) (by kernel_rfl) (by kernel_rfl) (by kernel_rfl) ?_; conv => whnf)
        have one : One c id l frm x ⟨5, frm, id, 1, l.length, lt1 l, l.length, l.length, false, [x], cz, [], []⟩ := ⟨rfl, rfl, rfl, rfl, rfl, rfl, rfl, rfl, rfl⟩
        obtain ⟨w', hw', k29⟩ := c_Take_one hc' hid ol (by omega) hfr hne hx1 hx2 ocm ole ow oq one
        ((try ((refine Exists.intro none ?_); (conv => whnf))); (first | (with_reducible refine And.intro (Nat.le_of_eq (Nat.zero_add _)) ?_) | (refine And.intro (by simp only [List.length_map, List.length_set, Nat.zero_add]; omega) ?_)); conv => whnf)
        ((try ((refine Exists.intro none ?_); (conv => whnf))); refine call_deep (k29) (by (repeat' (first | exact subVL_nil | exact subVR_nil | refine subVL_cons ?_ ?_ | refine subVR_cons ?_ ?_ | exact SubV.refl _ | exact subV_nl | (with_reducible exact subV_tk rfl) | refine subV_ag ?_ | refine subV_sl ?_ | refine subV_ep ?_))) ?_; conv => whnf)
        (refine Exists.intro _ (And.intro rfl (And.intro (by intro q _; simp only [List.length_nil]; omega) (And.intro (by intro i hi; exact absurd hi (Nat.not_lt_zero i)) ?_))); conv => whnf)
        have hi1 : (l.length : Int) + 1 = IntKind.i64.wrap ((l.length : Int) + 1) := (wrap_id (by omega) (by omega)).symm
        have hi2 : (l.length : Int) = (l.length : Int) := rfl
        have hdf := delay_fit (inForce (setH (fl c id l cm lead w q) (h1c c (l ++ [x])) l.length)) hid
        rw [← hw'] at hdf
        obtain ⟨w2, hw2, e1, e2⟩ := tick_heard hid (l := l ++ [x]) (cm := l.length) (frm := frm) (w := w') hw'
        have k30 := c_Tick (fl c id (l ++ [x]) l.length frm w' 0) (fl_right hc' okx (by omega) hid (by omega) (by omega) (by omega) (by omega)) (by show (l ++ [x]).length < _; omega) (by show (0 : Int) ≠ 3; decide)
        rw [e1, e2] at k30
        have ks := s_Entries (l ++ [x]) (smallM (by omega))
        clear k29 e1 e2 hw' hdf
        refine ⟨by decide, _, rfl, ?_⟩
        conv => whnf
        refine ⟨by decide, _, rfl, ?_⟩
        conv => whnf
        (first | (with_reducible refine split_dt (by first | assumption | omega) ?_) | (with_reducible refine split_df (by first | assumption | omega) ?_) | (with_reducible refine split_et (by first | assumption | omega) ?_) | (with_reducible refine split_ef (by first | assumption | omega) ?_) | (with_reducible refine split_bt (by first | assumption | omega) ?_) | (with_reducible refine split_bf (by first | assumption | omega) ?_) | (with_reducible refine split_nt (by assumption) ?_) | (with_reducible refine split_nf (by assumption) ?_) | (with_reducible refine split_t (by assumption) ?_) | (with_reducible refine split_f (by assumption) ?_))
        conv => whnf
        refine ⟨by decide, _, rfl, ?_⟩
        conv => whnf
        (first | (with_reducible refine split_dt (by first | assumption | omega) ?_) | (with_reducible refine split_df (by first | assumption | omega) ?_) | (with_reducible refine split_et (by first | assumption | omega) ?_) | (with_reducible refine split_ef (by first | assumption | omega) ?_) | (with_reducible refine split_bt (by first | assumption | omega) ?_) | (with_reducible refine split_bf (by first | assumption | omega) ?_) | (with_reducible refine split_nt (by assumption) ?_) | (with_reducible refine split_nf (by assumption) ?_) | (with_reducible refine split_t (by assumption) ?_) | (with_reducible refine split_f (by assumption) ?_))
        conv => whnf
        (first | (with_reducible refine split_dt (by first | assumption | omega) ?_) | (with_reducible refine split_df (by first | assumption | omega) ?_) | (with_reducible refine split_et (by first | assumption | omega) ?_) | (with_reducible refine split_ef (by first | assumption | omega) ?_) | (with_reducible refine split_bt (by first | assumption | omega) ?_) | (with_reducible refine split_bf (by first | assumption | omega) ?_) | (with_reducible refine split_nt (by assumption) ?_) | (with_reducible refine split_nf (by assumption) ?_) | (with_reducible refine split_t (by assumption) ?_) | (with_reducible refine split_f (by assumption) ?_))
        conv => whnf
        ((first | (with_reducible refine split_et rfl ?_) | (with_reducible refine split_bf rfl ?_) | (with_reducible refine split_t (beq_self_eq_true _) ?_) | (with_reducible refine split_f (bne_self_eq_false _) ?_)); conv => whnf)
        ((try ((refine Exists.intro none ?_); (conv => whnf))); first | ((with_reducible refine call_by (k30) ?_); conv => whnf))
        (refine Exists.intro _ (And.intro rfl (And.intro (by intro q _; simp only [List.length_nil]; omega) (And.intro (by intro i hi; exact absurd hi (Nat.not_lt_zero i)) ?_))); conv => whnf)
        ((try ((refine Exists.intro none ?_); (conv => whnf))); (first | (with_reducible refine And.intro (Nat.le_of_eq (Nat.zero_add _)) ?_) | (refine And.intro (by simp only [List.length_map, List.length_set, Nat.zero_add]; omega) ?_)); conv => whnf)
        refine call_eq ks (by simp only [List.drop_zero, List.take_length] <;> kernel_rfl) ?_
        conv => whnf
        refine ⟨⟨l ++ [x], l.length, frm, w2, 1⟩, [(5000, 1504)], ⟨⟨okx, by show (l ++ [x]).length ≤ n; omega, by show (0 : Int) ≤ l.length ∧ (l.length : Int) ≤ ((l ++ [x]).length : Nat); omega, by show -1 ≤ frm ∧ frm < 7; omega, hw2, by show (0 : Int) ≤ 1 ∧ (1 : Int) ≤ 1099511627776; decide⟩, by show n - (l ++ [x]).length < n - l.length; omega⟩, ?_⟩
        conv => whnf
        (refine And.intro (And.intro (by with_unfolding_all rfl) (by intro q h; cases h)) ?_; refine And.intro ?_ (And.intro ?_ ?_) <;> (conv => whnf) <;> (repeat' (first | exact True.intro | (with_reducible exact rfl) | exact (rfl : List.replicate 0 PV.bad = []) | ((with_reducible refine And.intro ?_ ?_) <;> (first | (with_reducible exact wkV_same _ rfl) | exact wkV_pt rfl rfl | exact wkV_ow rfl rfl rfl | (refine wkV_ow rfl rfl ?_) | (refine wkV_sc (congrArg (Value.int .i64) ?_)) | (refine wkV_sc (congrArg Value.bool ?_)) | exact wkV_ls rfl | ((refine wkV_cl ?_); conv => whnf) | ((refine wkV_tu ?_); conv => whnf) | ((refine wkV_ag ?_); conv => whnf) | (conv => whnf))))))
        all_goals first | rfl | (show IntKind.i64.wrap ((l.length : Int) + 1) = ((l ++ [x]).length : Nat); rw [← hi1, hll]; omega) | trace_state
    · clear h
      have hx1 : (⟨1, 0, kz, cz⟩ : Ent).term = 1 := rfl
      have hx2 : entryB ⟨1, 0, kz, cz⟩ = true := et_entry
      generalize hX : (⟨1, 0, kz, cz⟩ : Ent) = x at hx1 hx2
      have hxe : (⟨1, 0, kz, cz⟩ : Ent).enc = x.enc := by rw [hX]
      have hll : (l ++ [x]).length = l.length + 1 := by rw [List.length_append]; rfl
      have okx := okL_snoc ol hx1 hx2
      have hnx : (((l ++ [x]).map Ent.enc).length : Int) = (l.length : Int) + 1 := by rw [List.length_map, hll]; omega
      have kf := c_rFeedE c okx (l := l) (x := x) (by omega)
      rw [← hnx] at kf
      have hrows : List.take (l.map Ent.enc).length (l.map Ent.enc) ++ [(⟨1, 0, kz, cz⟩ : Ent).enc] = (l ++ [x]).map Ent.enc := by
        rw [hxe, List.take_of_length_le (Nat.le_refl _), List.map_append]; rfl
      have hlens : (l.map Ent.enc).length + [(⟨1, 0, kz, cz⟩ : Ent).enc].length = ((l ++ [x]).map Ent.enc).length := by
        rw [List.length_map, List.length_map, hll]; rfl
      (refine And.intro rfl ?_; (conv => whnf); refine And.intro (And.intro (And.intro (by kernel_rfl) (And.intro (Nat.le_refl _) (And.intro (b1) (And.intro (b2) (by intro r hr; rw [List.mem_singleton.1 hr]; rfl))))) (And.intro (by decide) rfl)) ?_; conv => whnf)
      rw [hrows, hlens]
      ((refine Exists.intro (some ([], [(1000000, 1504)], [(1, 1600)])) ?_); (conv => whnf); refine callE_eq (kf) (by kernel_rfl) (by kernel_rfl) (by kernel_rfl) ?_; conv => whnf)
      have one : One c id l frm x ⟨5, frm, id, 1, l.length, lt1 l, l.length, l.length, false, [x], cz, [], []⟩ := ⟨rfl, rfl, rfl, rfl, rfl, rfl, rfl, rfl, rfl⟩
      obtain ⟨w', hw', k29⟩ := c_Take_one hc' hid ol (by omega) hfr hne hx1 hx2 ocm ole ow oq one
      ((try ((refine Exists.intro none ?_); (conv => whnf))); (first | (with_reducible refine And.intro (Nat.le_of_eq (Nat.zero_add _)) ?_) | (refine And.intro (by simp only [List.length_map, List.length_set, Nat.zero_add]; omega) ?_)); conv => whnf)
      ((try ((refine Exists.intro none ?_); (conv => whnf))); refine call_deep (k29) (by (repeat' (first | exact subVL_nil | exact subVR_nil | refine subVL_cons ?_ ?_ | refine subVR_cons ?_ ?_ | exact SubV.refl _ | exact subV_nl | (with_reducible exact subV_tk rfl) | refine subV_ag ?_ | refine subV_sl ?_ | refine subV_ep ?_))) ?_; conv => whnf)
      (refine Exists.intro _ (And.intro rfl (And.intro (by intro q _; simp only [List.length_nil]; omega) (And.intro (by intro i hi; exact absurd hi (Nat.not_lt_zero i)) ?_))); conv => whnf)
      have hi1 : (l.length : Int) + 1 = IntKind.i64.wrap ((l.length : Int) + 1) := (wrap_id (by omega) (by omega)).symm
      have hi2 : (l.length : Int) = (l.length : Int) := rfl
      have hdf := delay_fit (inForce (setH (fl c id l cm lead w q) (h1c c (l ++ [x])) l.length)) hid
      rw [← hw'] at hdf
      obtain ⟨w2, hw2, e1, e2⟩ := tick_heard hid (l := l ++ [x]) (cm := l.length) (frm := frm) (w := w') hw'
      have k30 := c_Tick (fl c id (l ++ [x]) l.length frm w' 0) (fl_right hc' okx (by omega) hid (by omega) (by omega) (by omega) (by omega)) (by show (l ++ [x]).length < _; omega) (by show (0 : Int) ≠ 3; decide)
      rw [e1, e2] at k30
      have ks := s_Entries (l ++ [x]) (smallM (by omega))
      clear k29 e1 e2 hw' hdf
      refine ⟨by decide, _, rfl, ?_⟩
      conv => whnf
      refine ⟨by decide, _, rfl, ?_⟩
      conv => whnf
      (first | (with_reducible refine split_dt (by first | assumption | omega) ?_) | (with_reducible refine split_df (by first | assumption | omega) ?_) | (with_reducible refine split_et (by first | assumption | omega) ?_) | (with_reducible refine split_ef (by first | assumption | omega) ?_) | (with_reducible refine split_bt (by first | assumption | omega) ?_) | (with_reducible refine split_bf (by first | assumption | omega) ?_) | (with_reducible refine split_nt (by assumption) ?_) | (with_reducible refine split_nf (by assumption) ?_) | (with_reducible refine split_t (by assumption) ?_) | (with_reducible refine split_f (by assumption) ?_))
      conv => whnf
      refine ⟨by decide, _, rfl, ?_⟩
      conv => whnf
      (first | (with_reducible refine split_dt (by first | assumption | omega) ?_) | (with_reducible refine split_df (by first | assumption | omega) ?_) | (with_reducible refine split_et (by first | assumption | omega) ?_) | (with_reducible refine split_ef (by first | assumption | omega) ?_) | (with_reducible refine split_bt (by first | assumption | omega) ?_) | (with_reducible refine split_bf (by first | assumption | omega) ?_) | (with_reducible refine split_nt (by assumption) ?_) | (with_reducible refine split_nf (by assumption) ?_) | (with_reducible refine split_t (by assumption) ?_) | (with_reducible refine split_f (by assumption) ?_))
      conv => whnf
      (first | (with_reducible refine split_dt (by first | assumption | omega) ?_) | (with_reducible refine split_df (by first | assumption | omega) ?_) | (with_reducible refine split_et (by first | assumption | omega) ?_) | (with_reducible refine split_ef (by first | assumption | omega) ?_) | (with_reducible refine split_bt (by first | assumption | omega) ?_) | (with_reducible refine split_bf (by first | assumption | omega) ?_) | (with_reducible refine split_nt (by assumption) ?_) | (with_reducible refine split_nf (by assumption) ?_) | (with_reducible refine split_t (by assumption) ?_) | (with_reducible refine split_f (by assumption) ?_))
      conv => whnf
      ((first | (with_reducible refine split_et rfl ?_) | (with_reducible refine split_bf rfl ?_) | (with_reducible refine split_t (beq_self_eq_true _) ?_) | (with_reducible refine split_f (bne_self_eq_false _) ?_)); conv => whnf)
      ((try ((refine Exists.intro none ?_); (conv => whnf))); first | ((with_reducible refine call_by (k30) ?_); conv => whnf))
      (refine Exists.intro _ (And.intro rfl (And.intro (by intro q _; simp only [List.length_nil]; omega) (And.intro (by intro i hi; exact absurd hi (Nat.not_lt_zero i)) ?_))); conv => whnf)
      ((try ((refine Exists.intro none ?_); (conv => whnf))); (first | (with_reducible refine And.intro (Nat.le_of_eq (Nat.zero_add _)) ?_) | (refine And.intro (by simp only [List.length_map, List.length_set, Nat.zero_add]; omega) ?_)); conv => whnf)
      refine call_eq ks (by simp only [List.drop_zero, List.take_length] <;> kernel_rfl) ?_
      conv => whnf
      refine ⟨⟨l ++ [x], l.length, frm, w2, 1⟩, [(5000, 1504)], ⟨⟨okx, by show (l ++ [x]).length ≤ n; omega, by show (0 : Int) ≤ l.length ∧ (l.length : Int) ≤ ((l ++ [x]).length : Nat); omega, by show -1 ≤ frm ∧ frm < 7; omega, hw2, by show (0 : Int) ≤ 1 ∧ (1 : Int) ≤ 1099511627776; decide⟩, by show n - (l ++ [x]).length < n - l.length; omega⟩, ?_⟩
      conv => whnf
      (refine And.intro (And.intro (by with_unfolding_all rfl) (by intro q h; cases h)) ?_; refine And.intro ?_ (And.intro ?_ ?_) <;> (conv => whnf) <;> (repeat' (first | exact True.intro | (with_reducible exact rfl) | exact (rfl : List.replicate 0 PV.bad = []) | ((with_reducible refine And.intro ?_ ?_) <;> (first | (with_reducible exact wkV_same _ rfl) | exact wkV_pt rfl rfl | exact wkV_ow rfl rfl rfl | (refine wkV_ow rfl rfl ?_) | (refine wkV_sc (congrArg (Value.int .i64) ?_)) | (refine wkV_sc (congrArg Value.bool ?_)) | exact wkV_ls rfl | ((refine wkV_cl ?_); conv => whnf) | ((refine wkV_tu ?_); conv => whnf) | ((refine wkV_ag ?_); conv => whnf) | (conv => whnf))))))
      all_goals first | rfl | (show IntKind.i64.wrap ((l.length : Int) + 1) = ((l ++ [x]).length : Nat); rw [← hi1, hll]; omega) | trace_state
  · ((try ((refine Exists.intro none ?_); (conv => whnf))); first | ((with_reducible refine call_by (c_wakes18) ?_); conv => whnf))
    exact exit_plain rfl rfl
set_option maxHeartbeats 2000000 in
theorem e_Follows (c : Conf) (id frm n : Int) (cl : List VCall) (hg : ¬ (confB c = true ∧ withinB id 0 6 = true ∧ withinB frm 0 6 = true ∧ frm ≠ id ∧ (0 ≤ n ∧ n ≤ 100) ∧ cl.length ≤ 100)) : Ctr Tryz.prog 4 [.ag c.enc, iv id, iv frm, iv n, .sl 10 (cl.map VCall.enc)] (bv true) [] := by
  have k1 := c_rConf c
  have k2 := c_Node id
  have k3 := c_Node frm
  cases hc : confB c with
  | false =>
    rw [hc] at k1
    refine spec_of_body mixed Tryz.func4 rfl (by kernel_rfl) (by kernel_rfl) ?_; conv => whnf
    ((try ((refine Exists.intro none ?_); (conv => whnf))); first | ((with_reducible refine call_by (k1) ?_); conv => whnf))
    exact exit_plain rfl rfl
  | true =>
    rw [hc] at k1
    cases hi : withinB id 0 6 with
    | false =>
      rw [hi] at k2
      refine spec_of_body mixed Tryz.func4 rfl (by kernel_rfl) (by kernel_rfl) ?_; conv => whnf
      ((try ((refine Exists.intro none ?_); (conv => whnf))); first | ((with_reducible refine call_by (k1) ?_); conv => whnf))
      ((try ((refine Exists.intro none ?_); (conv => whnf))); first | ((with_reducible refine call_by (k2) ?_); conv => whnf))
      exact exit_plain rfl rfl
    | true =>
      rw [hi] at k2
      cases hj : withinB frm 0 6 with
      | false =>
        rw [hj] at k3
        refine spec_of_body mixed Tryz.func4 rfl (by kernel_rfl) (by kernel_rfl) ?_; conv => whnf
        ((try ((refine Exists.intro none ?_); (conv => whnf))); first | ((with_reducible refine call_by (k1) ?_); conv => whnf))
        ((try ((refine Exists.intro none ?_); (conv => whnf))); first | ((with_reducible refine call_by (k2) ?_); conv => whnf))
        ((try ((refine Exists.intro none ?_); (conv => whnf))); first | ((with_reducible refine call_by (k3) ?_); conv => whnf))
        exact exit_plain rfl rfl
      | true =>
        rw [hj] at k3
        refine spec_of_body mixed Tryz.func4 rfl (by kernel_rfl) (by kernel_rfl) ?_; conv => whnf
        ((try ((refine Exists.intro none ?_); (conv => whnf))); first | ((with_reducible refine call_by (k1) ?_); conv => whnf))
        ((try ((refine Exists.intro none ?_); (conv => whnf))); first | ((with_reducible refine call_by (k2) ?_); conv => whnf))
        ((try ((refine Exists.intro none ?_); (conv => whnf))); first | ((with_reducible refine call_by (k3) ?_); conv => whnf))
        ((first | (with_reducible refine split_dec (fun h => ?_) (fun h => ?_)) | (with_reducible refine split_beq (fun h => ?_) (fun h => ?_)) | (with_reducible refine split_bne (fun h => ?_) (fun h => ?_)) | (with_reducible refine split_not (fun h => ?_) (fun h => ?_)) | (with_reducible refine split_beqS (fun h => ?_) (fun h => ?_)) | (with_reducible refine split_intro (fun h => ?_) (fun h => ?_))) <;> conv => whnf)
        · exact exit_plain rfl rfl
        · have h0 := h
          clear h
          ((first | (with_reducible refine split_dec (fun h => ?_) (fun h => ?_)) | (with_reducible refine split_beq (fun h => ?_) (fun h => ?_)) | (with_reducible refine split_bne (fun h => ?_) (fun h => ?_)) | (with_reducible refine split_not (fun h => ?_) (fun h => ?_)) | (with_reducible refine split_beqS (fun h => ?_) (fun h => ?_)) | (with_reducible refine split_intro (fun h => ?_) (fun h => ?_))) <;> conv => whnf)
          · exact exit_plain rfl rfl
          · have h1 := h
            clear h
            ((first | (with_reducible refine split_dec (fun h => ?_) (fun h => ?_)) | (with_reducible refine split_beq (fun h => ?_) (fun h => ?_)) | (with_reducible refine split_bne (fun h => ?_) (fun h => ?_)) | (with_reducible refine split_not (fun h => ?_) (fun h => ?_)) | (with_reducible refine split_beqS (fun h => ?_) (fun h => ?_)) | (with_reducible refine split_intro (fun h => ?_) (fun h => ?_))) <;> conv => whnf)
            · exact exit_plain rfl rfl
            · have h2 := h
              clear h
              ((first | (with_reducible refine split_dec (fun h => ?_) (fun h => ?_)) | (with_reducible refine split_beq (fun h => ?_) (fun h => ?_)) | (with_reducible refine split_bne (fun h => ?_) (fun h => ?_)) | (with_reducible refine split_not (fun h => ?_) (fun h => ?_)) | (with_reducible refine split_beqS (fun h => ?_) (fun h => ?_)) | (with_reducible refine split_intro (fun h => ?_) (fun h => ?_))) <;> conv => whnf)
              · exact exit_plain rfl rfl
              · simp only [List.length_map] at h
                exact absurd ⟨hc, hi, hj, fun e => h0 (by first | exact e | exact e.symm), ⟨by omega, by omega⟩, by omega⟩ hg
theorem told_RaftFollows (qs : List PV) (h : ArgsOf Tryz.prog [23, 3, 3, 3, 60] qs) : Ctr Tryz.prog 4 qs (bv true) [] := by
  obtain ⟨p1, qs, rfl, h1, h⟩ := argsOf_cons h
  obtain ⟨p2, qs, rfl, h2, h⟩ := argsOf_cons h
  obtain ⟨p3, qs, rfl, h3, h⟩ := argsOf_cons h
  obtain ⟨p4, qs, rfl, h4, h⟩ := argsOf_cons h
  obtain ⟨p5, qs, rfl, h5, h⟩ := argsOf_cons h
  obtain rfl := argsOf_nil h
  obtain ⟨c, rfl, _⟩ := arg_Conf h1
  obtain ⟨id, rfl, _⟩ := arg_i h2
  obtain ⟨frm, rfl, _⟩ := arg_i h3
  obtain ⟨n, rfl, _⟩ := arg_i h4
  obtain ⟨cl, rfl, _⟩ := arg_Calls h5
  by_cases hg : confB c = true ∧ withinB id 0 6 = true ∧ withinB frm 0 6 = true ∧ frm ≠ id ∧ (0 ≤ n ∧ n ≤ 100) ∧ cl.length ≤ 100
  · obtain ⟨g1, g2, g3, g4, ⟨g5, g6⟩, g7⟩ := hg
    have hi : 0 ≤ id ∧ id ≤ 6 := by simpa [withinB] using g2
    have hj : 0 ≤ frm ∧ frm ≤ 6 := by simpa [withinB] using g3
    obtain ⟨q, rfl⟩ : ∃ q : Nat, n = q := ⟨n.toNat, by omega⟩
    exact l_Follows c id frm q cl g1 (by omega) (by omega) g4 (by omega) g7
  · exact e_Follows c id frm n cl hg
end Go.Proofs
