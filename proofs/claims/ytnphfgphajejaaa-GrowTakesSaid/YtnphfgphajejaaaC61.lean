/- Contracts of functions: a message's twin. -/
import Derived.Test.YtnphfgphajejaaaC56
import Derived.Test.YtnphfgphajejaaaPvY
set_option linter.unusedSimpArgs false
set_option linter.unusedVariables false
namespace Go.Proofs
open Go.Pv
set_option maxRecDepth 100000

abbrev lowN (m : Mg) (q : PV) : List PV := [iv m.kind, iv m.frm, iv m.to, iv m.term, iv m.index, iv m.logTerm, iv m.commit, iv m.round, bv m.yes, .sl 16 (m.entries.map Ent.enc), iv m.conf.full, iv m.conf.wit, iv m.conf.learn, iv m.conf.lwit, .sl 1 (m.snap.map encB), q]
theorem c_low (m : Mg) (h1 : m.entries.length ≤ 4294967) (h2 : m.snap.length ≤ 4294967) : Ctr Try.prog 215 [.ag m.enc] (.ag (lowN m .nl)) [] := by
  have t2 := (c_TwinEntries m.entries (by omega)).frz (wkV_fz (b := false) (List.Mem.head _) rfl)
  have t3 := (c_Twin m.snap (by omega)).frz (wkV_fz (b := false) (List.Mem.head _) rfl)
  refine spec_of_body mixed Try.func215 rfl (by kernel_rfl) (by kernel_rfl) ?_; conv => whnf
  ((try ((refine Exists.intro none ?_); (conv => whnf))); first | ((with_reducible refine call_by (t2) ?_); conv => whnf))
  (refine Exists.intro _ (And.intro rfl (And.intro (by intro q _; simp only [List.length_nil]; omega) (And.intro (by intro i hi; exact absurd hi (Nat.not_lt_zero i)) ?_))); conv => whnf)
  ((try ((refine Exists.intro none ?_); (conv => whnf))); first | ((with_reducible refine call_by (t3) ?_); conv => whnf))
  (refine Exists.intro _ (And.intro rfl (And.intro (by intro q _; simp only [List.length_nil]; omega) (And.intro (by intro i hi; exact absurd hi (Nat.not_lt_zero i)) ?_))); conv => whnf)
  exact exit_plain rfl rfl

abbrev lowR (z : Mg) : List PV := lowN z .nl
def nlSl (rows : List (List PV)) : PV := match rows with
  | [] => .nl
  | _ => .sl 16 rows
noncomputable def twR (y : Mg) : List PV := lowN y (nlSl (y.inn.map lowR))

set_option maxHeartbeats 8000000 in
theorem c_TwinMsg (m : Mg) (hm : m.ok) (h1 : m.entries.length ≤ 4294967) (h2 : m.snap.length ≤ 4294967) (h3 : m.inn.length ≤ 4294967)
    (h4 : ∀ y ∈ m.inn, (y.entries.length ≤ 4294967 ∧ y.snap.length ≤ 4294967) ∧ y.inn.length ≤ 4294967 ∧ ∀ z ∈ y.inn, z.entries.length ≤ 4294967 ∧ z.snap.length ≤ 4294967) :
    Ctr Try.prog 148 [.ag m.enc] (.ag (lowN m (.sl 16 (m.inn.map twR)))) [] := by
  obtain ⟨e, hok⟩ := Mg.inn_spec hm
  have hlen : m.inner.length = m.inn.length := by rw [e]; simp
  refine spec_of_body mixed Try.func148 rfl (by kernel_rfl) (by kernel_rfl) ?_; conv => whnf
  ((try ((refine Exists.intro none ?_); (conv => whnf))); first | ((with_reducible refine call_by (c_low m h1 h2) ?_); conv => whnf))
  (refine Exists.intro _ (And.intro rfl (And.intro (by intro q _; simp only [List.length_nil]; omega) (And.intro (by intro i hi; exact absurd hi (Nat.not_lt_zero i)) ?_))); conv => whnf)
  refine tri_forF mixed (by kernel_rfl) (fun i : Nat => i ≤ m.inn.length) (fun i => [(4, iv i)])
    (fun i => [(1, m.enc), (2, mzv), (3, lowN m (match i with | 0 => .nl | n + 1 => .ow 1002 0 ((m.inn.take (n + 1)).map twR).length))])
    (fun i => match i with | 0 => [] | n + 1 => [(1002, some (false, 16, (m.inn.take (n + 1)).map twR))]) [] [] (fun i => m.inn.length - i) 0 (Nat.zero_le _) ?_ ?_
  · conv => whnf
    (refine And.intro (And.intro (by with_unfolding_all rfl) (by intro q h; cases h)) ?_; refine And.intro ?_ (And.intro ?_ ?_) <;> (conv => whnf) <;> (repeat' (first | exact True.intro | (with_reducible exact rfl) | exact (rfl : List.replicate 0 PV.bad = []) | ((with_reducible refine And.intro ?_ ?_) <;> (first | (with_reducible exact wkV_same _ rfl) | exact wkV_pt rfl rfl | exact wkV_ow rfl rfl rfl | (refine wkV_ow rfl rfl ?_) | (refine wkV_sc (congrArg (Value.int .i64) ?_)) | (refine wkV_sc (congrArg Value.bool ?_)) | exact wkV_ls rfl | ((refine wkV_cl ?_); conv => whnf) | ((refine wkV_tu ?_); conv => whnf) | ((refine wkV_ag ?_); conv => whnf) | (conv => whnf))))))
    all_goals rfl
  intro i hi
  rcases i with _ | i
  · conv => whnf
    ((first | (with_reducible refine split_dec (fun h => ?_) (fun h => ?_)) | (with_reducible refine split_beq (fun h => ?_) (fun h => ?_)) | (with_reducible refine split_bne (fun h => ?_) (fun h => ?_)) | (with_reducible refine split_not (fun h => ?_) (fun h => ?_)) | (with_reducible refine split_beqS (fun h => ?_) (fun h => ?_)) | (with_reducible refine split_intro (fun h => ?_) (fun h => ?_))) <;> conv => whnf)
    · rw [hlen] at h
      have hlt : 0 < m.inn.length := by omega
      have hrow : m.inner[((0 : Nat) : Int).toNat]? = some (m.inn[0]'hlt).enc := by rw [e]; exact row_at hlt
      obtain ⟨⟨b1, b2⟩, b3, b4⟩ := h4 _ (List.getElem_mem hlt)
      obtain ⟨e2, hok2⟩ := Mg.inn_spec (hok _ (List.getElem_mem hlt))
      have hsucc0 : (m.inn.take (0 + 1)).map twR = (m.inn.take 0).map twR ++ [twR (m.inn[0]'hlt)] := by rw [List.take_succ_eq_append_getElem hlt, List.map_append]; rfl
      generalize hy : m.inn[0]'hlt = y at *
      have hlen2 : y.inner.length = y.inn.length := by rw [e2]; simp
      have n1 : ((m.inn.take 0).map twR).length ≤ 4294967 := by rw [List.length_map, List.length_take]; omega
      refine ⟨by omega, _, hrow, ?_⟩
      conv => whnf
      ((try ((refine Exists.intro none ?_); (conv => whnf))); first | ((with_reducible refine call_by (c_low y b1 b2) ?_); conv => whnf))
      (refine Exists.intro _ (And.intro rfl (And.intro (by intro q _; simp only [List.length_nil]; omega) (And.intro (by intro i hi; exact absurd hi (Nat.not_lt_zero i)) ?_))); conv => whnf)
      by_cases hn : y.inn = []
      · have htw : twR y = lowN y .nl := by unfold twR; rw [hn]; rfl
        have hl0 : y.inner.length = 0 := by rw [hlen2, hn]; rfl
        refine tri_forF mixed (by kernel_rfl) (fun _ : Unit => True) (fun _ => [(6, iv 0)]) (fun _ => [(1, m.enc), (2, mzv), (3, lowN m (.nl)), (5, lowN y .nl)]) (fun _ => []) [] [] (fun _ => 0) () trivial ?_ ?_
        · conv => whnf
          (refine And.intro (And.intro (by with_unfolding_all rfl) (by intro q h; cases h)) ?_; refine And.intro ?_ (And.intro ?_ ?_) <;> (conv => whnf) <;> (repeat' (first | exact True.intro | (with_reducible exact rfl) | exact (rfl : List.replicate 0 PV.bad = []) | ((with_reducible refine And.intro ?_ ?_) <;> (first | (with_reducible exact wkV_same _ rfl) | exact wkV_pt rfl rfl | exact wkV_ow rfl rfl rfl | (refine wkV_ow rfl rfl ?_) | (refine wkV_sc (congrArg (Value.int .i64) ?_)) | (refine wkV_sc (congrArg Value.bool ?_)) | exact wkV_ls rfl | ((refine wkV_cl ?_); conv => whnf) | ((refine wkV_tu ?_); conv => whnf) | ((refine wkV_ag ?_); conv => whnf) | (conv => whnf))))))
          all_goals rfl
        intro _ _
        conv => whnf
        refine ⟨by omega, _, hrow, ?_⟩
        conv => whnf
        ((first | (with_reducible refine split_dec (fun h => ?_) (fun h => ?_)) | (with_reducible refine split_beq (fun h => ?_) (fun h => ?_)) | (with_reducible refine split_bne (fun h => ?_) (fun h => ?_)) | (with_reducible refine split_not (fun h => ?_) (fun h => ?_)) | (with_reducible refine split_beqS (fun h => ?_) (fun h => ?_)) | (with_reducible refine split_intro (fun h => ?_) (fun h => ?_))) <;> conv => whnf)
        · exfalso; omega
        · refine ⟨rfl, ?_⟩
          conv => whnf
          refine ⟨⟨⟨small (by simp) (by kernel_rfl), smallM (by simp)⟩, rfl⟩, ?_⟩
          conv => whnf
          refine ⟨0 + 1, [(1002, 832)], [], ⟨by omega, by omega⟩, ?_⟩
          conv => whnf
          (refine And.intro (And.intro (by with_unfolding_all rfl) (by intro q h; cases h)) ?_; refine And.intro ?_ (And.intro ?_ ?_) <;> (conv => whnf) <;> (repeat' (first | exact True.intro | (with_reducible exact rfl) | exact (rfl : List.replicate 0 PV.bad = []) | ((with_reducible refine And.intro ?_ ?_) <;> (first | (with_reducible exact wkV_same _ rfl) | exact wkV_pt rfl rfl | exact wkV_ow rfl rfl rfl | (refine wkV_ow rfl rfl ?_) | (refine wkV_sc (congrArg (Value.int .i64) ?_)) | (refine wkV_sc (congrArg Value.bool ?_)) | exact wkV_ls rfl | ((refine wkV_cl ?_); conv => whnf) | ((refine wkV_tu ?_); conv => whnf) | ((refine wkV_ag ?_); conv => whnf) | (conv => whnf))))))
          all_goals first | exact w1 (by omega) | exact obj_eq (by kernel_rfl) (by (try rw [List.take_of_length_le (Nat.le_refl _)]); first | (rw [hsucc0, htw]; done) | (rw [hsucc0, htw]; rfl)) | (rw [hsucc0, List.length_append]; done) | (rw [hsucc0, List.length_append]; rfl) | rfl | trace_state
      · have hpos : 0 < y.inn.length := List.length_pos_iff.2 hn
        have htw : twR y = lowN y (.sl 16 (y.inn.map lowR)) := by
          unfold twR
          cases he : y.inn with
          | nil => exact absurd he hn
          | cons z zs => rfl
        refine tri_forF mixed (by kernel_rfl) (fun b : Option Nat => match b with | none => True | some k => k < y.inn.length) (fun b => [(6, iv (match b with | none => (y.inn.length : Nat) | some k => (k : Nat)))])
          (fun b => [(1, m.enc), (2, mzv), (3, lowN m (.nl)), (5, lowN y (match b with | none => .sl 16 (y.inn.map lowR) | some 0 => .nl | some (k + 1) => .ow 1001 0 ((y.inn.take (k + 1)).map lowR).length))])
          (fun b => match b with | none => [] | some 0 => [] | some (k + 1) => [(1001, some (false, 16, (y.inn.take (k + 1)).map lowR))]) [] [] (fun b => match b with | none => 0 | some k => y.inn.length + 1 - k) (some 0) hpos ?_ ?_
        · conv => whnf
          (refine And.intro (And.intro (by with_unfolding_all rfl) (by intro q h; cases h)) ?_; refine And.intro ?_ (And.intro ?_ ?_) <;> (conv => whnf) <;> (repeat' (first | exact True.intro | (with_reducible exact rfl) | exact (rfl : List.replicate 0 PV.bad = []) | ((with_reducible refine And.intro ?_ ?_) <;> (first | (with_reducible exact wkV_same _ rfl) | exact wkV_pt rfl rfl | exact wkV_ow rfl rfl rfl | (refine wkV_ow rfl rfl ?_) | (refine wkV_sc (congrArg (Value.int .i64) ?_)) | (refine wkV_sc (congrArg Value.bool ?_)) | exact wkV_ls rfl | ((refine wkV_cl ?_); conv => whnf) | ((refine wkV_tu ?_); conv => whnf) | ((refine wkV_ag ?_); conv => whnf) | (conv => whnf))))))
          all_goals rfl
        rintro b hb
        rcases b with _ | k
        · conv => whnf
          refine ⟨by omega, _, hrow, ?_⟩
          conv => whnf
          ((first | (with_reducible refine split_dec (fun h => ?_) (fun h => ?_)) | (with_reducible refine split_beq (fun h => ?_) (fun h => ?_)) | (with_reducible refine split_bne (fun h => ?_) (fun h => ?_)) | (with_reducible refine split_not (fun h => ?_) (fun h => ?_)) | (with_reducible refine split_beqS (fun h => ?_) (fun h => ?_)) | (with_reducible refine split_intro (fun h => ?_) (fun h => ?_))) <;> conv => whnf)
          · exfalso; (have h : ((y.inn.length : Nat) : Int) < (y.inner.length : Int) := h); rw [hlen2] at h; omega
          · refine ⟨rfl, ?_⟩
            conv => whnf
            refine ⟨⟨⟨small (by simp) (by kernel_rfl), smallM (by simp)⟩, rfl⟩, ?_⟩
            conv => whnf
            refine ⟨0 + 1, [(1002, 832)], [], ⟨by omega, by omega⟩, ?_⟩
            conv => whnf
            (refine And.intro (And.intro (by with_unfolding_all rfl) (by intro q h; cases h)) ?_; refine And.intro ?_ (And.intro ?_ ?_) <;> (conv => whnf) <;> (repeat' (first | exact True.intro | (with_reducible exact rfl) | exact (rfl : List.replicate 0 PV.bad = []) | ((with_reducible refine And.intro ?_ ?_) <;> (first | (with_reducible exact wkV_same _ rfl) | exact wkV_pt rfl rfl | exact wkV_ow rfl rfl rfl | (refine wkV_ow rfl rfl ?_) | (refine wkV_sc (congrArg (Value.int .i64) ?_)) | (refine wkV_sc (congrArg Value.bool ?_)) | exact wkV_ls rfl | ((refine wkV_cl ?_); conv => whnf) | ((refine wkV_tu ?_); conv => whnf) | ((refine wkV_ag ?_); conv => whnf) | (conv => whnf))))))
            all_goals first | exact w1 (by omega) | exact obj_eq (by kernel_rfl) (by (try rw [List.take_of_length_le (Nat.le_refl _)]); first | (rw [hsucc0, htw]; done) | (rw [hsucc0, htw]; rfl)) | (rw [hsucc0, List.length_append]; done) | (rw [hsucc0, List.length_append]; rfl) | rfl | trace_state
        · rcases k with _ | k
          · conv => whnf
            refine ⟨by omega, _, hrow, ?_⟩
            conv => whnf
            ((first | (with_reducible refine split_dec (fun h => ?_) (fun h => ?_)) | (with_reducible refine split_beq (fun h => ?_) (fun h => ?_)) | (with_reducible refine split_bne (fun h => ?_) (fun h => ?_)) | (with_reducible refine split_not (fun h => ?_) (fun h => ?_)) | (with_reducible refine split_beqS (fun h => ?_) (fun h => ?_)) | (with_reducible refine split_intro (fun h => ?_) (fun h => ?_))) <;> conv => whnf)
            · clear h
              have hkl : 0 < y.inn.length := hb
              have hrow2 : y.inner[((0 : Nat) : Int).toNat]? = some (y.inn[0]'hkl).enc := by rw [e2]; exact row_at hkl
              obtain ⟨d1, d2⟩ := b4 _ (List.getElem_mem hkl)
              have hsz : (y.inn.take (0 + 1)).map lowR = (y.inn.take 0).map lowR ++ [lowR (y.inn[0]'hkl)] := by rw [List.take_succ_eq_append_getElem hkl, List.map_append]; rfl
              have n2 : ((y.inn.take 0).map lowR).length ≤ 4294967 := by rw [List.length_map, List.length_take]; omega
              generalize hz : y.inn[0]'hkl = z at *
              refine ⟨by omega, _, hrow, ?_⟩
              conv => whnf
              refine ⟨(show 0 ≤ ((0 : Nat) : Int) by omega), _, hrow2, ?_⟩
              conv => whnf
              ((try ((refine Exists.intro none ?_); (conv => whnf))); first | ((with_reducible refine call_by (c_low z d1 d2) ?_); conv => whnf))
              (refine Exists.intro _ (And.intro rfl (And.intro (by intro q _; simp only [List.length_nil]; omega) (And.intro (by intro i hi; exact absurd hi (Nat.not_lt_zero i)) ?_))); conv => whnf)
              refine ⟨rfl, ?_⟩
              conv => whnf
              refine ⟨⟨⟨small (by simp) (by kernel_rfl), smallM (by simp)⟩, rfl⟩, ?_⟩
              conv => whnf
              by_cases hlast : 0 + 1 < y.inn.length
              · refine ⟨some (0 + 1), [(1001, 736)], [], ⟨hlast, by show y.inn.length + 1 - (0 + 1) < y.inn.length + 1 - 0; omega⟩, ?_⟩
                conv => whnf
                (refine And.intro (And.intro (by with_unfolding_all rfl) (by intro q h; cases h)) ?_; refine And.intro ?_ (And.intro ?_ ?_) <;> (conv => whnf) <;> (repeat' (first | exact True.intro | (with_reducible exact rfl) | exact (rfl : List.replicate 0 PV.bad = []) | ((with_reducible refine And.intro ?_ ?_) <;> (first | (with_reducible exact wkV_same _ rfl) | exact wkV_pt rfl rfl | exact wkV_ow rfl rfl rfl | (refine wkV_ow rfl rfl ?_) | (refine wkV_sc (congrArg (Value.int .i64) ?_)) | (refine wkV_sc (congrArg Value.bool ?_)) | exact wkV_ls rfl | ((refine wkV_cl ?_); conv => whnf) | ((refine wkV_tu ?_); conv => whnf) | ((refine wkV_ag ?_); conv => whnf) | (conv => whnf))))))
                all_goals first | (show IntKind.i64.wrap (((0 : Nat) : Int) + 1) = ((0 + 1 : Nat) : Int); exact w1 (by omega)) | exact obj_eq (by kernel_rfl) (by (try rw [List.take_of_length_le (Nat.le_refl _)]); exact hsz.symm) | (rw [hsz, List.length_append]; done) | (rw [hsz, List.length_append]; rfl) | rfl | trace_state
              · have eall : y.inn.map lowR = (y.inn.take 0).map lowR ++ [lowR z] := by
                  rw [← hsz, List.take_of_length_le (by omega)]
                have hfl : 1 = (y.inn.map lowR).length := by rw [eall, List.length_append]; first | done | rfl
                refine ⟨none, [], [(736, false, 16, y.inn.map lowR)], ⟨trivial, by show 0 < y.inn.length + 1 - 0; omega⟩, ?_⟩
                conv => whnf
                (refine And.intro (And.intro (by with_unfolding_all rfl) (by intro q hq; rw [List.mem_singleton.1 hq]; refine congrArg (fun x => some (some x)) (obj_eq (b := false) (by kernel_rfl) ?_); (try rw [List.take_of_length_le (Nat.le_refl _)]); exact eall.symm)) ?_; refine And.intro ?_ (And.intro ?_ ?_) <;> (conv => whnf) <;> (repeat' (first | exact True.intro | (with_reducible exact rfl) | exact (rfl : List.replicate 0 PV.bad = []) | ((with_reducible refine And.intro ?_ ?_) <;> (first | (with_reducible exact wkV_same _ rfl) | exact wkV_pt rfl rfl | exact wkV_fz (b := false) (List.Mem.head _) hfl | exact wkV_ow rfl rfl rfl | (refine wkV_ow rfl rfl ?_) | (refine wkV_sc (congrArg (Value.int .i64) ?_)) | (refine wkV_sc (congrArg Value.bool ?_)) | exact wkV_ls rfl | ((refine wkV_cl ?_); conv => whnf) | ((refine wkV_tu ?_); conv => whnf) | ((refine wkV_ag ?_); conv => whnf) | (conv => whnf))))))
                all_goals first | (show IntKind.i64.wrap (((0 : Nat) : Int) + 1) = ((y.inn.length : Nat) : Int); rw [wrap_id (by omega) (by omega)]; omega) | rfl | trace_state
            · exfalso; (have h : ¬ ((0 : Nat) : Int) < (y.inner.length : Int) := h); rw [hlen2] at h; (have hb : 0 < y.inn.length := hb); omega
          · conv => whnf
            refine ⟨by omega, _, hrow, ?_⟩
            conv => whnf
            ((first | (with_reducible refine split_dec (fun h => ?_) (fun h => ?_)) | (with_reducible refine split_beq (fun h => ?_) (fun h => ?_)) | (with_reducible refine split_bne (fun h => ?_) (fun h => ?_)) | (with_reducible refine split_not (fun h => ?_) (fun h => ?_)) | (with_reducible refine split_beqS (fun h => ?_) (fun h => ?_)) | (with_reducible refine split_intro (fun h => ?_) (fun h => ?_))) <;> conv => whnf)
            · clear h
              have hkl : (k + 1) < y.inn.length := hb
              have hrow2 : y.inner[(((k + 1) : Nat) : Int).toNat]? = some (y.inn[(k + 1)]'hkl).enc := by rw [e2]; exact row_at hkl
              obtain ⟨d1, d2⟩ := b4 _ (List.getElem_mem hkl)
              have hsz : (y.inn.take ((k + 1) + 1)).map lowR = (y.inn.take (k + 1)).map lowR ++ [lowR (y.inn[(k + 1)]'hkl)] := by rw [List.take_succ_eq_append_getElem hkl, List.map_append]; rfl
              have n2 : ((y.inn.take (k + 1)).map lowR).length ≤ 4294967 := by rw [List.length_map, List.length_take]; omega
              generalize hz : y.inn[(k + 1)]'hkl = z at *
              refine ⟨by omega, _, hrow, ?_⟩
              conv => whnf
              refine ⟨(show 0 ≤ (((k + 1) : Nat) : Int) by omega), _, hrow2, ?_⟩
              conv => whnf
              ((try ((refine Exists.intro none ?_); (conv => whnf))); first | ((with_reducible refine call_by (c_low z d1 d2) ?_); conv => whnf))
              (refine Exists.intro _ (And.intro rfl (And.intro (by intro q _; simp only [List.length_nil]; omega) (And.intro (by intro i hi; exact absurd hi (Nat.not_lt_zero i)) ?_))); conv => whnf)
              (refine And.intro rfl ?_; (conv => whnf); refine And.intro (And.intro (And.intro (by kernel_rfl) (And.intro (by simp) (And.intro (small (by simp only [List.length_cons, List.length_nil]; omega) (by kernel_rfl)) (And.intro (smallM (by simp only [List.length_cons, List.length_nil]; omega)) (by intro r hr; rw [List.mem_singleton.1 hr]; rfl))))) (And.intro (by decide) rfl)) ?_; conv => whnf)
              by_cases hlast : (k + 1) + 1 < y.inn.length
              · refine ⟨some ((k + 1) + 1), [(1001, 736)], [], ⟨hlast, by show y.inn.length + 1 - ((k + 1) + 1) < y.inn.length + 1 - (k + 1); omega⟩, ?_⟩
                conv => whnf
                (refine And.intro (And.intro (by with_unfolding_all rfl) (by intro q h; cases h)) ?_; refine And.intro ?_ (And.intro ?_ ?_) <;> (conv => whnf) <;> (repeat' (first | exact True.intro | (with_reducible exact rfl) | exact (rfl : List.replicate 0 PV.bad = []) | ((with_reducible refine And.intro ?_ ?_) <;> (first | (with_reducible exact wkV_same _ rfl) | exact wkV_pt rfl rfl | exact wkV_ow rfl rfl rfl | (refine wkV_ow rfl rfl ?_) | (refine wkV_sc (congrArg (Value.int .i64) ?_)) | (refine wkV_sc (congrArg Value.bool ?_)) | exact wkV_ls rfl | ((refine wkV_cl ?_); conv => whnf) | ((refine wkV_tu ?_); conv => whnf) | ((refine wkV_ag ?_); conv => whnf) | (conv => whnf))))))
                all_goals first | (show IntKind.i64.wrap ((((k + 1) : Nat) : Int) + 1) = (((k + 1) + 1 : Nat) : Int); exact w1 (by omega)) | exact obj_eq (by kernel_rfl) (by (try rw [List.take_of_length_le (Nat.le_refl _)]); exact hsz.symm) | (rw [hsz, List.length_append]; done) | (rw [hsz, List.length_append]; rfl) | rfl | trace_state
              · have eall : y.inn.map lowR = (y.inn.take (k + 1)).map lowR ++ [lowR z] := by
                  rw [← hsz, List.take_of_length_le (by omega)]
                have hfl : ((y.inn.take (k + 1)).map lowR).length + 1 = (y.inn.map lowR).length := by rw [eall, List.length_append]; first | done | rfl
                refine ⟨none, [], [(736, false, 16, y.inn.map lowR)], ⟨trivial, by show 0 < y.inn.length + 1 - (k + 1); omega⟩, ?_⟩
                conv => whnf
                (refine And.intro (And.intro (by with_unfolding_all rfl) (by intro q hq; rw [List.mem_singleton.1 hq]; refine congrArg (fun x => some (some x)) (obj_eq (b := false) (by kernel_rfl) ?_); (try rw [List.take_of_length_le (Nat.le_refl _)]); exact eall.symm)) ?_; refine And.intro ?_ (And.intro ?_ ?_) <;> (conv => whnf) <;> (repeat' (first | exact True.intro | (with_reducible exact rfl) | exact (rfl : List.replicate 0 PV.bad = []) | ((with_reducible refine And.intro ?_ ?_) <;> (first | (with_reducible exact wkV_same _ rfl) | exact wkV_pt rfl rfl | exact wkV_fz (b := false) (List.Mem.head _) hfl | exact wkV_ow rfl rfl rfl | (refine wkV_ow rfl rfl ?_) | (refine wkV_sc (congrArg (Value.int .i64) ?_)) | (refine wkV_sc (congrArg Value.bool ?_)) | exact wkV_ls rfl | ((refine wkV_cl ?_); conv => whnf) | ((refine wkV_tu ?_); conv => whnf) | ((refine wkV_ag ?_); conv => whnf) | (conv => whnf))))))
                all_goals first | (show IntKind.i64.wrap ((((k + 1) : Nat) : Int) + 1) = ((y.inn.length : Nat) : Int); rw [wrap_id (by omega) (by omega)]; omega) | rfl | trace_state
            · exfalso; (have h : ¬ ((k + 1 : Nat) : Int) < (y.inner.length : Int) := h); rw [hlen2] at h; (have hb : k + 1 < y.inn.length := hb); omega
    · have e0 : m.inn = [] := List.eq_nil_of_length_eq_zero (by rw [hlen] at h; (have h : ¬ ((0 : Nat) : Int) < (m.inn.length : Int) := h); omega)
      rw [e0]
      refine exit_fz [] (fun q hq => by cases hq) (wkV_ag ?_)
      conv => whnf
      repeat' (first | exact rfl | ((with_reducible refine And.intro ?_ ?_) <;> (first | (with_reducible exact wkV_same _ rfl) | exact Or.inr (Or.inl ⟨rfl, rfl⟩) | (simp only [WkV]; exact Or.inr (Or.inl ⟨rfl, rfl⟩)) | (conv => whnf))))
  · conv => whnf
    ((first | (with_reducible refine split_dec (fun h => ?_) (fun h => ?_)) | (with_reducible refine split_beq (fun h => ?_) (fun h => ?_)) | (with_reducible refine split_bne (fun h => ?_) (fun h => ?_)) | (with_reducible refine split_not (fun h => ?_) (fun h => ?_)) | (with_reducible refine split_beqS (fun h => ?_) (fun h => ?_)) | (with_reducible refine split_intro (fun h => ?_) (fun h => ?_))) <;> conv => whnf)
    · rw [hlen] at h
      have hlt : (i + 1) < m.inn.length := by omega
      have hrow : m.inner[(((i + 1) : Nat) : Int).toNat]? = some (m.inn[(i + 1)]'hlt).enc := by rw [e]; exact row_at hlt
      obtain ⟨⟨b1, b2⟩, b3, b4⟩ := h4 _ (List.getElem_mem hlt)
      obtain ⟨e2, hok2⟩ := Mg.inn_spec (hok _ (List.getElem_mem hlt))
      have hsucc0 : (m.inn.take ((i + 1) + 1)).map twR = (m.inn.take (i + 1)).map twR ++ [twR (m.inn[(i + 1)]'hlt)] := by rw [List.take_succ_eq_append_getElem hlt, List.map_append]; rfl
      generalize hy : m.inn[(i + 1)]'hlt = y at *
      have hlen2 : y.inner.length = y.inn.length := by rw [e2]; simp
      have n1 : ((m.inn.take (i + 1)).map twR).length ≤ 4294967 := by rw [List.length_map, List.length_take]; omega
      refine ⟨by omega, _, hrow, ?_⟩
      conv => whnf
      ((try ((refine Exists.intro none ?_); (conv => whnf))); first | ((with_reducible refine call_by (c_low y b1 b2) ?_); conv => whnf))
      (refine Exists.intro _ (And.intro rfl (And.intro (by intro q _; simp only [List.length_nil]; omega) (And.intro (by intro i hi; exact absurd hi (Nat.not_lt_zero i)) ?_))); conv => whnf)
      by_cases hn : y.inn = []
      · have htw : twR y = lowN y .nl := by unfold twR; rw [hn]; rfl
        have hl0 : y.inner.length = 0 := by rw [hlen2, hn]; rfl
        refine tri_forF mixed (by kernel_rfl) (fun _ : Unit => True) (fun _ => [(6, iv 0)]) (fun _ => [(1, m.enc), (2, mzv), (3, lowN m (.ow 1002 0 ((m.inn.take (i + 1)).map twR).length)), (5, lowN y .nl)]) (fun _ => [(1002, some (false, 16, (m.inn.take (i + 1)).map twR))]) [(1002, 1002)] [] (fun _ => 0) () trivial ?_ ?_
        · conv => whnf
          (refine And.intro (And.intro (by with_unfolding_all rfl) (by intro q h; cases h)) ?_; refine And.intro ?_ (And.intro ?_ ?_) <;> (conv => whnf) <;> (repeat' (first | exact True.intro | (with_reducible exact rfl) | exact (rfl : List.replicate 0 PV.bad = []) | ((with_reducible refine And.intro ?_ ?_) <;> (first | (with_reducible exact wkV_same _ rfl) | exact wkV_pt rfl rfl | exact wkV_ow rfl rfl rfl | (refine wkV_ow rfl rfl ?_) | (refine wkV_sc (congrArg (Value.int .i64) ?_)) | (refine wkV_sc (congrArg Value.bool ?_)) | exact wkV_ls rfl | ((refine wkV_cl ?_); conv => whnf) | ((refine wkV_tu ?_); conv => whnf) | ((refine wkV_ag ?_); conv => whnf) | (conv => whnf))))))
          all_goals rfl
        intro _ _
        conv => whnf
        refine ⟨by omega, _, hrow, ?_⟩
        conv => whnf
        ((first | (with_reducible refine split_dec (fun h => ?_) (fun h => ?_)) | (with_reducible refine split_beq (fun h => ?_) (fun h => ?_)) | (with_reducible refine split_bne (fun h => ?_) (fun h => ?_)) | (with_reducible refine split_not (fun h => ?_) (fun h => ?_)) | (with_reducible refine split_beqS (fun h => ?_) (fun h => ?_)) | (with_reducible refine split_intro (fun h => ?_) (fun h => ?_))) <;> conv => whnf)
        · exfalso; omega
        · (refine And.intro rfl ?_; (conv => whnf); refine And.intro (And.intro (And.intro (by kernel_rfl) (And.intro (by simp) (And.intro (small (by simp only [List.length_cons, List.length_nil]; omega) (by kernel_rfl)) (And.intro (smallM (by simp only [List.length_cons, List.length_nil]; omega)) (by intro r hr; rw [List.mem_singleton.1 hr]; rfl))))) (And.intro (by decide) rfl)) ?_; conv => whnf)
          refine ⟨(i + 1) + 1, [(1002, 832)], [], ⟨by omega, by omega⟩, ?_⟩
          conv => whnf
          (refine And.intro (And.intro (by with_unfolding_all rfl) (by intro q h; cases h)) ?_; refine And.intro ?_ (And.intro ?_ ?_) <;> (conv => whnf) <;> (repeat' (first | exact True.intro | (with_reducible exact rfl) | exact (rfl : List.replicate 0 PV.bad = []) | ((with_reducible refine And.intro ?_ ?_) <;> (first | (with_reducible exact wkV_same _ rfl) | exact wkV_pt rfl rfl | exact wkV_ow rfl rfl rfl | (refine wkV_ow rfl rfl ?_) | (refine wkV_sc (congrArg (Value.int .i64) ?_)) | (refine wkV_sc (congrArg Value.bool ?_)) | exact wkV_ls rfl | ((refine wkV_cl ?_); conv => whnf) | ((refine wkV_tu ?_); conv => whnf) | ((refine wkV_ag ?_); conv => whnf) | (conv => whnf))))))
          all_goals first | exact w1 (by omega) | exact obj_eq (by kernel_rfl) (by (try rw [List.take_of_length_le (Nat.le_refl _)]); first | (rw [hsucc0, htw]; done) | (rw [hsucc0, htw]; rfl)) | (rw [hsucc0, List.length_append]; done) | (rw [hsucc0, List.length_append]; rfl) | rfl | trace_state
      · have hpos : 0 < y.inn.length := List.length_pos_iff.2 hn
        have htw : twR y = lowN y (.sl 16 (y.inn.map lowR)) := by
          unfold twR
          cases he : y.inn with
          | nil => exact absurd he hn
          | cons z zs => rfl
        refine tri_forF mixed (by kernel_rfl) (fun b : Option Nat => match b with | none => True | some k => k < y.inn.length) (fun b => [(6, iv (match b with | none => (y.inn.length : Nat) | some k => (k : Nat)))])
          (fun b => [(1, m.enc), (2, mzv), (3, lowN m (.ow 1002 0 ((m.inn.take (i + 1)).map twR).length)), (5, lowN y (match b with | none => .sl 16 (y.inn.map lowR) | some 0 => .nl | some (k + 1) => .ow 1001 0 ((y.inn.take (k + 1)).map lowR).length))])
          (fun b => match b with | none => [(1002, some (false, 16, (m.inn.take (i + 1)).map twR))] | some 0 => [(1002, some (false, 16, (m.inn.take (i + 1)).map twR))] | some (k + 1) => [(1002, some (false, 16, (m.inn.take (i + 1)).map twR)), (1001, some (false, 16, (y.inn.take (k + 1)).map lowR))]) [(1002, 1002)] [] (fun b => match b with | none => 0 | some k => y.inn.length + 1 - k) (some 0) hpos ?_ ?_
        · conv => whnf
          (refine And.intro (And.intro (by with_unfolding_all rfl) (by intro q h; cases h)) ?_; refine And.intro ?_ (And.intro ?_ ?_) <;> (conv => whnf) <;> (repeat' (first | exact True.intro | (with_reducible exact rfl) | exact (rfl : List.replicate 0 PV.bad = []) | ((with_reducible refine And.intro ?_ ?_) <;> (first | (with_reducible exact wkV_same _ rfl) | exact wkV_pt rfl rfl | exact wkV_ow rfl rfl rfl | (refine wkV_ow rfl rfl ?_) | (refine wkV_sc (congrArg (Value.int .i64) ?_)) | (refine wkV_sc (congrArg Value.bool ?_)) | exact wkV_ls rfl | ((refine wkV_cl ?_); conv => whnf) | ((refine wkV_tu ?_); conv => whnf) | ((refine wkV_ag ?_); conv => whnf) | (conv => whnf))))))
          all_goals rfl
        rintro b hb
        rcases b with _ | k
        · conv => whnf
          refine ⟨by omega, _, hrow, ?_⟩
          conv => whnf
          ((first | (with_reducible refine split_dec (fun h => ?_) (fun h => ?_)) | (with_reducible refine split_beq (fun h => ?_) (fun h => ?_)) | (with_reducible refine split_bne (fun h => ?_) (fun h => ?_)) | (with_reducible refine split_not (fun h => ?_) (fun h => ?_)) | (with_reducible refine split_beqS (fun h => ?_) (fun h => ?_)) | (with_reducible refine split_intro (fun h => ?_) (fun h => ?_))) <;> conv => whnf)
          · exfalso; (have h : ((y.inn.length : Nat) : Int) < (y.inner.length : Int) := h); rw [hlen2] at h; omega
          · (refine And.intro rfl ?_; (conv => whnf); refine And.intro (And.intro (And.intro (by kernel_rfl) (And.intro (by simp) (And.intro (small (by simp only [List.length_cons, List.length_nil]; omega) (by kernel_rfl)) (And.intro (smallM (by simp only [List.length_cons, List.length_nil]; omega)) (by intro r hr; rw [List.mem_singleton.1 hr]; rfl))))) (And.intro (by decide) rfl)) ?_; conv => whnf)
            refine ⟨(i + 1) + 1, [(1002, 832)], [], ⟨by omega, by omega⟩, ?_⟩
            conv => whnf
            (refine And.intro (And.intro (by with_unfolding_all rfl) (by intro q h; cases h)) ?_; refine And.intro ?_ (And.intro ?_ ?_) <;> (conv => whnf) <;> (repeat' (first | exact True.intro | (with_reducible exact rfl) | exact (rfl : List.replicate 0 PV.bad = []) | ((with_reducible refine And.intro ?_ ?_) <;> (first | (with_reducible exact wkV_same _ rfl) | exact wkV_pt rfl rfl | exact wkV_ow rfl rfl rfl | (refine wkV_ow rfl rfl ?_) | (refine wkV_sc (congrArg (Value.int .i64) ?_)) | (refine wkV_sc (congrArg Value.bool ?_)) | exact wkV_ls rfl | ((refine wkV_cl ?_); conv => whnf) | ((refine wkV_tu ?_); conv => whnf) | ((refine wkV_ag ?_); conv => whnf) | (conv => whnf))))))
            all_goals first | exact w1 (by omega) | exact obj_eq (by kernel_rfl) (by (try rw [List.take_of_length_le (Nat.le_refl _)]); first | (rw [hsucc0, htw]; done) | (rw [hsucc0, htw]; rfl)) | (rw [hsucc0, List.length_append]; done) | (rw [hsucc0, List.length_append]; rfl) | rfl | trace_state
        · rcases k with _ | k
          · conv => whnf
            refine ⟨by omega, _, hrow, ?_⟩
            conv => whnf
            ((first | (with_reducible refine split_dec (fun h => ?_) (fun h => ?_)) | (with_reducible refine split_beq (fun h => ?_) (fun h => ?_)) | (with_reducible refine split_bne (fun h => ?_) (fun h => ?_)) | (with_reducible refine split_not (fun h => ?_) (fun h => ?_)) | (with_reducible refine split_beqS (fun h => ?_) (fun h => ?_)) | (with_reducible refine split_intro (fun h => ?_) (fun h => ?_))) <;> conv => whnf)
            · clear h
              have hkl : 0 < y.inn.length := hb
              have hrow2 : y.inner[((0 : Nat) : Int).toNat]? = some (y.inn[0]'hkl).enc := by rw [e2]; exact row_at hkl
              obtain ⟨d1, d2⟩ := b4 _ (List.getElem_mem hkl)
              have hsz : (y.inn.take (0 + 1)).map lowR = (y.inn.take 0).map lowR ++ [lowR (y.inn[0]'hkl)] := by rw [List.take_succ_eq_append_getElem hkl, List.map_append]; rfl
              have n2 : ((y.inn.take 0).map lowR).length ≤ 4294967 := by rw [List.length_map, List.length_take]; omega
              generalize hz : y.inn[0]'hkl = z at *
              refine ⟨by omega, _, hrow, ?_⟩
              conv => whnf
              refine ⟨(show 0 ≤ ((0 : Nat) : Int) by omega), _, hrow2, ?_⟩
              conv => whnf
              ((try ((refine Exists.intro none ?_); (conv => whnf))); first | ((with_reducible refine call_by (c_low z d1 d2) ?_); conv => whnf))
              (refine Exists.intro _ (And.intro rfl (And.intro (by intro q _; simp only [List.length_nil]; omega) (And.intro (by intro i hi; exact absurd hi (Nat.not_lt_zero i)) ?_))); conv => whnf)
              refine ⟨rfl, ?_⟩
              conv => whnf
              refine ⟨⟨⟨small (by simp) (by kernel_rfl), smallM (by simp)⟩, rfl⟩, ?_⟩
              conv => whnf
              by_cases hlast : 0 + 1 < y.inn.length
              · refine ⟨some (0 + 1), [(1002, 1002), (1001, 736)], [], ⟨hlast, by show y.inn.length + 1 - (0 + 1) < y.inn.length + 1 - 0; omega⟩, ?_⟩
                conv => whnf
                (refine And.intro (And.intro (by with_unfolding_all rfl) (by intro q h; cases h)) ?_; refine And.intro ?_ (And.intro ?_ ?_) <;> (conv => whnf) <;> (repeat' (first | exact True.intro | (with_reducible exact rfl) | exact (rfl : List.replicate 0 PV.bad = []) | ((with_reducible refine And.intro ?_ ?_) <;> (first | (with_reducible exact wkV_same _ rfl) | exact wkV_pt rfl rfl | exact wkV_ow rfl rfl rfl | (refine wkV_ow rfl rfl ?_) | (refine wkV_sc (congrArg (Value.int .i64) ?_)) | (refine wkV_sc (congrArg Value.bool ?_)) | exact wkV_ls rfl | ((refine wkV_cl ?_); conv => whnf) | ((refine wkV_tu ?_); conv => whnf) | ((refine wkV_ag ?_); conv => whnf) | (conv => whnf))))))
                all_goals first | (show IntKind.i64.wrap (((0 : Nat) : Int) + 1) = ((0 + 1 : Nat) : Int); exact w1 (by omega)) | exact obj_eq (by kernel_rfl) (by (try rw [List.take_of_length_le (Nat.le_refl _)]); exact hsz.symm) | (rw [hsz, List.length_append]; done) | (rw [hsz, List.length_append]; rfl) | rfl | trace_state
              · have eall : y.inn.map lowR = (y.inn.take 0).map lowR ++ [lowR z] := by
                  rw [← hsz, List.take_of_length_le (by omega)]
                have hfl : 1 = (y.inn.map lowR).length := by rw [eall, List.length_append]; first | done | rfl
                refine ⟨none, [(1002, 1002)], [(736, false, 16, y.inn.map lowR)], ⟨trivial, by show 0 < y.inn.length + 1 - 0; omega⟩, ?_⟩
                conv => whnf
                (refine And.intro (And.intro (by with_unfolding_all rfl) (by intro q hq; rw [List.mem_singleton.1 hq]; refine congrArg (fun x => some (some x)) (obj_eq (b := false) (by kernel_rfl) ?_); (try rw [List.take_of_length_le (Nat.le_refl _)]); exact eall.symm)) ?_; refine And.intro ?_ (And.intro ?_ ?_) <;> (conv => whnf) <;> (repeat' (first | exact True.intro | (with_reducible exact rfl) | exact (rfl : List.replicate 0 PV.bad = []) | ((with_reducible refine And.intro ?_ ?_) <;> (first | (with_reducible exact wkV_same _ rfl) | exact wkV_pt rfl rfl | exact wkV_fz (b := false) (List.Mem.head _) hfl | exact wkV_ow rfl rfl rfl | (refine wkV_ow rfl rfl ?_) | (refine wkV_sc (congrArg (Value.int .i64) ?_)) | (refine wkV_sc (congrArg Value.bool ?_)) | exact wkV_ls rfl | ((refine wkV_cl ?_); conv => whnf) | ((refine wkV_tu ?_); conv => whnf) | ((refine wkV_ag ?_); conv => whnf) | (conv => whnf))))))
                all_goals first | (show IntKind.i64.wrap (((0 : Nat) : Int) + 1) = ((y.inn.length : Nat) : Int); rw [wrap_id (by omega) (by omega)]; omega) | rfl | trace_state
            · exfalso; (have h : ¬ ((0 : Nat) : Int) < (y.inner.length : Int) := h); rw [hlen2] at h; (have hb : 0 < y.inn.length := hb); omega
          · conv => whnf
            refine ⟨by omega, _, hrow, ?_⟩
            conv => whnf
            ((first | (with_reducible refine split_dec (fun h => ?_) (fun h => ?_)) | (with_reducible refine split_beq (fun h => ?_) (fun h => ?_)) | (with_reducible refine split_bne (fun h => ?_) (fun h => ?_)) | (with_reducible refine split_not (fun h => ?_) (fun h => ?_)) | (with_reducible refine split_beqS (fun h => ?_) (fun h => ?_)) | (with_reducible refine split_intro (fun h => ?_) (fun h => ?_))) <;> conv => whnf)
            · clear h
              have hkl : (k + 1) < y.inn.length := hb
              have hrow2 : y.inner[(((k + 1) : Nat) : Int).toNat]? = some (y.inn[(k + 1)]'hkl).enc := by rw [e2]; exact row_at hkl
              obtain ⟨d1, d2⟩ := b4 _ (List.getElem_mem hkl)
              have hsz : (y.inn.take ((k + 1) + 1)).map lowR = (y.inn.take (k + 1)).map lowR ++ [lowR (y.inn[(k + 1)]'hkl)] := by rw [List.take_succ_eq_append_getElem hkl, List.map_append]; rfl
              have n2 : ((y.inn.take (k + 1)).map lowR).length ≤ 4294967 := by rw [List.length_map, List.length_take]; omega
              generalize hz : y.inn[(k + 1)]'hkl = z at *
              refine ⟨by omega, _, hrow, ?_⟩
              conv => whnf
              refine ⟨(show 0 ≤ (((k + 1) : Nat) : Int) by omega), _, hrow2, ?_⟩
              conv => whnf
              ((try ((refine Exists.intro none ?_); (conv => whnf))); first | ((with_reducible refine call_by (c_low z d1 d2) ?_); conv => whnf))
              (refine Exists.intro _ (And.intro rfl (And.intro (by intro q _; simp only [List.length_nil]; omega) (And.intro (by intro i hi; exact absurd hi (Nat.not_lt_zero i)) ?_))); conv => whnf)
              (refine And.intro rfl ?_; (conv => whnf); refine And.intro (And.intro (And.intro (by kernel_rfl) (And.intro (by simp) (And.intro (small (by simp only [List.length_cons, List.length_nil]; omega) (by kernel_rfl)) (And.intro (smallM (by simp only [List.length_cons, List.length_nil]; omega)) (by intro r hr; rw [List.mem_singleton.1 hr]; rfl))))) (And.intro (by decide) rfl)) ?_; conv => whnf)
              by_cases hlast : (k + 1) + 1 < y.inn.length
              · refine ⟨some ((k + 1) + 1), [(1002, 1002), (1001, 736)], [], ⟨hlast, by show y.inn.length + 1 - ((k + 1) + 1) < y.inn.length + 1 - (k + 1); omega⟩, ?_⟩
                conv => whnf
                (refine And.intro (And.intro (by with_unfolding_all rfl) (by intro q h; cases h)) ?_; refine And.intro ?_ (And.intro ?_ ?_) <;> (conv => whnf) <;> (repeat' (first | exact True.intro | (with_reducible exact rfl) | exact (rfl : List.replicate 0 PV.bad = []) | ((with_reducible refine And.intro ?_ ?_) <;> (first | (with_reducible exact wkV_same _ rfl) | exact wkV_pt rfl rfl | exact wkV_ow rfl rfl rfl | (refine wkV_ow rfl rfl ?_) | (refine wkV_sc (congrArg (Value.int .i64) ?_)) | (refine wkV_sc (congrArg Value.bool ?_)) | exact wkV_ls rfl | ((refine wkV_cl ?_); conv => whnf) | ((refine wkV_tu ?_); conv => whnf) | ((refine wkV_ag ?_); conv => whnf) | (conv => whnf))))))
                all_goals first | (show IntKind.i64.wrap ((((k + 1) : Nat) : Int) + 1) = (((k + 1) + 1 : Nat) : Int); exact w1 (by omega)) | exact obj_eq (by kernel_rfl) (by (try rw [List.take_of_length_le (Nat.le_refl _)]); exact hsz.symm) | (rw [hsz, List.length_append]; done) | (rw [hsz, List.length_append]; rfl) | rfl | trace_state
              · have eall : y.inn.map lowR = (y.inn.take (k + 1)).map lowR ++ [lowR z] := by
                  rw [← hsz, List.take_of_length_le (by omega)]
                have hfl : ((y.inn.take (k + 1)).map lowR).length + 1 = (y.inn.map lowR).length := by rw [eall, List.length_append]; first | done | rfl
                refine ⟨none, [(1002, 1002)], [(736, false, 16, y.inn.map lowR)], ⟨trivial, by show 0 < y.inn.length + 1 - (k + 1); omega⟩, ?_⟩
                conv => whnf
                (refine And.intro (And.intro (by with_unfolding_all rfl) (by intro q hq; rw [List.mem_singleton.1 hq]; refine congrArg (fun x => some (some x)) (obj_eq (b := false) (by kernel_rfl) ?_); (try rw [List.take_of_length_le (Nat.le_refl _)]); exact eall.symm)) ?_; refine And.intro ?_ (And.intro ?_ ?_) <;> (conv => whnf) <;> (repeat' (first | exact True.intro | (with_reducible exact rfl) | exact (rfl : List.replicate 0 PV.bad = []) | ((with_reducible refine And.intro ?_ ?_) <;> (first | (with_reducible exact wkV_same _ rfl) | exact wkV_pt rfl rfl | exact wkV_fz (b := false) (List.Mem.head _) hfl | exact wkV_ow rfl rfl rfl | (refine wkV_ow rfl rfl ?_) | (refine wkV_sc (congrArg (Value.int .i64) ?_)) | (refine wkV_sc (congrArg Value.bool ?_)) | exact wkV_ls rfl | ((refine wkV_cl ?_); conv => whnf) | ((refine wkV_tu ?_); conv => whnf) | ((refine wkV_ag ?_); conv => whnf) | (conv => whnf))))))
                all_goals first | (show IntKind.i64.wrap ((((k + 1) : Nat) : Int) + 1) = ((y.inn.length : Nat) : Int); rw [wrap_id (by omega) (by omega)]; omega) | rfl | trace_state
            · exfalso; (have h : ¬ ((k + 1 : Nat) : Int) < (y.inner.length : Int) := h); rw [hlen2] at h; (have hb : k + 1 < y.inn.length := hb); omega
    · have e0 : m.inn.take (i + 1) = m.inn := List.take_of_length_le (by rw [hlen] at h; (have h : ¬ ((i + 1 : Nat) : Int) < (m.inn.length : Int) := h); omega)
      rw [show m.inn.map twR = (m.inn.take (i + 1)).map twR from by rw [e0]]
      refine exit_fz [(1002, false, 16, (m.inn.take (i + 1)).map twR)] (fun q hq => by rw [List.mem_singleton.1 hq]; rfl) (wkV_ag ?_)
      conv => whnf
      repeat' (first | exact rfl | ((with_reducible refine And.intro ?_ ?_) <;> (first | (with_reducible exact wkV_same _ rfl) | exact wkV_fz (b := false) (List.Mem.head _) rfl | (conv => whnf))))
end Go.Proofs
