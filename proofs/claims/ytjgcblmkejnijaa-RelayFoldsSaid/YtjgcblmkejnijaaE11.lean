/- Contracts of functions: answers folded. -/
import Derived.Test.YtjgcblmkejnijaaE9
set_option linter.unusedSimpArgs false
set_option linter.unusedVariables false
namespace Go.Proofs
open Go.Pv
set_option maxRecDepth 100000

def maxI (a b : Int) : Int := if b > a then b else a
def foldsB (a b : Mg) : Bool := if a.kind = 6 then (if b.kind = 6 then (if a.yes = true then (if b.yes = true then (if a.frm = b.frm then (if a.to = b.to then decide (a.term = b.term) else false) else false) else false) else false) else false) else false
theorem c_folds (a b : Mg) : Ctr Try.prog 78 [.ag a.enc, .ag b.enc] (bv (foldsB a b)) [] := by
  unfold foldsB
  refine spec_of_body mixed Try.func78 rfl (by kernel_rfl) (by kernel_rfl) ?_; conv => whnf
  repeat' ((first | (with_reducible refine split_dec (fun h => ?_) (fun h => ?_)) | (with_reducible refine split_beq (fun h => ?_) (fun h => ?_)) | (with_reducible refine split_bne (fun h => ?_) (fun h => ?_)) | (with_reducible refine split_not (fun h => ?_) (fun h => ?_)) | (with_reducible refine split_beqS (fun h => ?_) (fun h => ?_)) | (with_reducible refine split_intro (fun h => ?_) (fun h => ?_))) <;> conv => whnf)
  all_goals (refine exit_plain rfl ?_; first | (simp_all; done) | (simp_all; rfl))
def updF (x m : Mg) : Mg := { x with index := maxI x.index m.index, round := maxI x.round m.round }
def insF : List Mg → Mg → List Mg
  | [], m => [m]
  | x :: out, m => if foldsB x m = true then updF x m :: out else x :: insF out m
def foldL (l : List Mg) : List Mg := l.foldl insF []
theorem foldL_succ {l : List Mg} {i : Nat} (h : i < l.length) : foldL (l.take (i + 1)) = insF (foldL (l.take i)) (l[i]'h) := by
  unfold foldL
  rw [List.take_succ_eq_append_getElem h, List.foldl_append]; rfl
theorem insF_none : ∀ {out : List Mg} {m : Mg}, (∀ x ∈ out, foldsB x m = false) → insF out m = out ++ [m]
  | [], m, _ => rfl
  | x :: out, m, h => by
    unfold insF
    rw [h x (List.mem_cons_self ..), if_neg (by decide), insF_none fun y hy => h y (List.mem_cons_of_mem _ hy)]; rfl
theorem insF_at : ∀ {out : List Mg} {m : Mg} {k : Nat} (hk : k < out.length), (∀ j (hj : j < out.length), j < k → foldsB (out[j]'hj) m = false) → foldsB (out[k]'hk) m = true → insF out m = out.set k (updF (out[k]'hk) m)
  | [], m, k, hk, _, _ => by simp at hk
  | x :: out, m, 0, hk, _, h => by
    unfold insF
    have h : foldsB x m = true := h
    rw [h, if_pos rfl]; rfl
  | x :: out, m, k + 1, hk, hl, h => by
    unfold insF
    have h0 := hl 0 (by simp) (by omega)
    have h0 : foldsB x m = false := h0
    rw [h0, if_neg (by decide), insF_at (by simpa using hk) (fun j hj hjk => hl (j + 1) (by simpa using hj) (by omega)) h]; rfl
theorem insF_len (out : List Mg) (m : Mg) : (insF out m).length = out.length ∨ (insF out m).length = out.length + 1 := by
  induction out with
  | nil => exact .inr rfl
  | cons x out ih =>
    unfold insF
    split
    · exact .inl rfl
    · simp only [List.length_cons]; omega
theorem foldL_len (l : List Mg) : (foldL l).length ≤ l.length := by
  have key : ∀ (l s : List Mg), (l.foldl insF s).length ≤ s.length + l.length := by
    intro l
    induction l with
    | nil => intro s; simp
    | cons x l ih =>
      intro s
      rw [List.foldl_cons, List.length_cons]
      have h1 := ih (insF s x)
      have h2 := insF_len s x
      omega
  have := key l []
  simpa [foldL] using this
theorem c_gNextY (nx mt : Int) (m : Mg) (hy : m.yes = true) (h2 : -1152921504606846976 ≤ mt ∧ mt ≤ 1152921504606846976) (h3 : m.index ≤ 1152921504606846976) :
    Ctr Try.prog 39 [iv nx, iv mt, .ag m.enc] (.tu [iv (maxI nx (maxI mt m.index + 1)), iv (maxI mt m.index)]) [] := by
  have w4 : IntKind.i64.wrap (maxI mt m.index + 1) = maxI mt m.index + 1 := by
    unfold maxI
    exact wrap_id (by split <;> omega) (by split <;> omega)
  refine spec_of_body mixed Try.func39 rfl (by kernel_rfl) (by kernel_rfl) ?_; conv => whnf
  ((first | (with_reducible refine split_dec (fun h => ?_) (fun h => ?_)) | (with_reducible refine split_beq (fun h => ?_) (fun h => ?_)) | (with_reducible refine split_bne (fun h => ?_) (fun h => ?_)) | (with_reducible refine split_not (fun h => ?_) (fun h => ?_)) | (with_reducible refine split_beqS (fun h => ?_) (fun h => ?_)) | (with_reducible refine split_intro (fun h => ?_) (fun h => ?_))) <;> conv => whnf)
  · refine exit_plain rfl ?_
    have e : IntKind.i64.wrap ((if m.index > mt then m.index else mt) + 1) = (if m.index > mt then m.index else mt) + 1 := w4
    rw [e]; rfl
  · exfalso; rw [hy] at h; cases h

set_option maxHeartbeats 4000000 in
theorem c_Fold (l : List Mg) (hl : l.length ≤ 4294967) (ht : ∀ m ∈ l, Ctr Try.prog 73 [.ag m.enc] (.ag m.enc) []) : Ctr Try.prog 38 [.sl 16 (l.map Mg.enc)] (.sl 16 ((foldL l).map Mg.enc)) [] := by
  refine spec_of_body mixed Try.func38 rfl (by kernel_rfl) (by kernel_rfl) ?_; conv => whnf
  refine tri_born 3 1002 16 rfl rfl ?_
  conv => whnf
  refine tri_forO mixed (by kernel_rfl) (fun i : Nat => i ≤ l.length) (fun i => [(10, iv i), (3, .ow 1002 0 ((foldL (l.take i)).map Mg.enc).length)]) (fun _ => []) (fun i => [(1002, some (false, 16, (foldL (l.take i)).map Mg.enc))]) [(1002, 1002)] (fun i => l.length - i) 0 (Nat.zero_le _) ?_ ?_
  · conv => whnf
    (refine And.intro (And.intro (by with_unfolding_all rfl) (by intro q h; cases h)) ?_; refine And.intro ?_ (And.intro ?_ ?_) <;> (conv => whnf) <;> (repeat' (first | exact True.intro | (with_reducible exact rfl) | exact (rfl : List.replicate 0 PV.bad = []) | ((with_reducible refine And.intro ?_ ?_) <;> (first | (with_reducible exact wkV_same _ rfl) | exact wkV_pt rfl rfl | exact wkV_ow rfl rfl rfl | (refine wkV_ow rfl rfl ?_) | (refine wkV_sc (congrArg (Value.int .i64) ?_)) | (refine wkV_sc (congrArg Value.bool ?_)) | exact wkV_ls rfl | ((refine wkV_cl ?_); conv => whnf) | ((refine wkV_tu ?_); conv => whnf) | ((refine wkV_ag ?_); conv => whnf) | (conv => whnf))))))
    all_goals first | rfl | trace_state
  intro i hi
  conv => whnf
  ((first | (with_reducible refine split_dec (fun h => ?_) (fun h => ?_)) | (with_reducible refine split_beq (fun h => ?_) (fun h => ?_)) | (with_reducible refine split_bne (fun h => ?_) (fun h => ?_)) | (with_reducible refine split_not (fun h => ?_) (fun h => ?_)) | (with_reducible refine split_beqS (fun h => ?_) (fun h => ?_)) | (with_reducible refine split_intro (fun h => ?_) (fun h => ?_))) <;> conv => whnf)
  · have hlt : i < l.length := by simp only [List.length_map] at h; omega
    clear h
    have hsucc := foldL_succ hlt
    have hol := foldL_len (l.take i)
    rw [List.length_take, Nat.min_eq_left hi] at hol
    have hc := ht _ (List.getElem_mem hlt)
    have hins := insF_len (foldL (l.take i)) (l[i]'hlt)
    (first | ((with_reducible refine And.intro (by omega) (Exists.intro _ (And.intro (row_at hlt) ?_))); conv => whnf))
    generalize foldL (l.take i) = out at *
    generalize l[i]'hlt = m at *
    refine tri_forO mixed (by kernel_rfl) (fun b : Nat × Bool => b.1 ≤ out.length ∧ (b.2 = false → ∀ j (hj : j < out.length), j < b.1 → foldsB (out[j]'hj) m = false) ∧ (b.2 = true → (insF out m).length = out.length)) (fun b => [(16, iv b.1), (6, bv b.2)]) (fun _ => [(5, m.enc)]) (fun b => [(1002, some (false, 16, (cond b.2 (insF out m) out).map Mg.enc))]) [(1002, 1002)] (fun b => out.length - b.1) (0, false) ⟨Nat.zero_le _, fun _ j _ h => absurd h (Nat.not_lt_zero _), (fun h => by cases h)⟩ ?_ ?_
    · conv => whnf
      (refine And.intro (And.intro (by with_unfolding_all rfl) (by intro q h; cases h)) ?_; refine And.intro ?_ (And.intro ?_ ?_) <;> (conv => whnf) <;> (repeat' (first | exact True.intro | (with_reducible exact rfl) | exact (rfl : List.replicate 0 PV.bad = []) | ((with_reducible refine And.intro ?_ ?_) <;> (first | (with_reducible exact wkV_same _ rfl) | exact wkV_pt rfl rfl | exact wkV_ow rfl rfl rfl | (refine wkV_ow rfl rfl ?_) | (refine wkV_sc (congrArg (Value.int .i64) ?_)) | (refine wkV_sc (congrArg Value.bool ?_)) | exact wkV_ls rfl | ((refine wkV_cl ?_); conv => whnf) | ((refine wkV_tu ?_); conv => whnf) | ((refine wkV_ag ?_); conv => whnf) | (conv => whnf))))))
      all_goals first | rfl | trace_state
    rintro ⟨k, fd⟩ ⟨hk, hno, hfl⟩
    simp only at hk hno hfl
    conv => whnf
    ((first | (with_reducible refine split_dec (fun h => ?_) (fun h => ?_)) | (with_reducible refine split_beq (fun h => ?_) (fun h => ?_)) | (with_reducible refine split_bne (fun h => ?_) (fun h => ?_)) | (with_reducible refine split_not (fun h => ?_) (fun h => ?_)) | (with_reducible refine split_beqS (fun h => ?_) (fun h => ?_)) | (with_reducible refine split_intro (fun h => ?_) (fun h => ?_))) <;> conv => whnf)
    · have hkl : k < out.length := by simp only [List.length_map] at h; omega
      clear h
      cases fd with
      | true =>
        conv => whnf
        refine ⟨(k + 1, true), [(1002, 1002)], ⟨⟨hkl, (fun h => by cases h), hfl⟩, by show out.length - (k + 1) < out.length - k; omega⟩, ?_⟩
        conv => whnf
        (refine And.intro (And.intro (by with_unfolding_all rfl) (by intro q h; cases h)) ?_; refine And.intro ?_ (And.intro ?_ ?_) <;> (conv => whnf) <;> (repeat' (first | exact True.intro | (with_reducible exact rfl) | exact (rfl : List.replicate 0 PV.bad = []) | ((with_reducible refine And.intro ?_ ?_) <;> (first | (with_reducible exact wkV_same _ rfl) | exact wkV_pt rfl rfl | exact wkV_ow rfl rfl rfl | (refine wkV_ow rfl rfl ?_) | (refine wkV_sc (congrArg (Value.int .i64) ?_)) | (refine wkV_sc (congrArg Value.bool ?_)) | exact wkV_ls rfl | ((refine wkV_cl ?_); conv => whnf) | ((refine wkV_tu ?_); conv => whnf) | ((refine wkV_ag ?_); conv => whnf) | (conv => whnf))))))
        all_goals first | exact w1 (by omega) | rfl | trace_state
      | false =>
        have kf := c_folds (out[k]'hkl) m
        have hx : (out.map Mg.enc)[0 + ((k : Nat) : Int).toNat]? = some (out[k]'hkl).enc := by
          rw [Nat.zero_add, Int.toNat_natCast, List.getElem?_map, List.getElem?_eq_getElem hkl]; rfl
        conv => whnf
        refine ⟨⟨by omega, by rw [List.length_map]; omega⟩, ?_⟩
        conv => whnf
        refine ⟨_, hx, ?_⟩
        conv => whnf
        ((try ((refine Exists.intro none ?_); (conv => whnf))); first | ((with_reducible refine call_by (kf) ?_); conv => whnf))
        cases hf : foldsB (out[k]'hkl) m with
        | false =>
          conv => whnf
          refine ⟨(k + 1, false), [(1002, 1002)], ⟨⟨hkl, (fun _ j hj hji => ?_), (fun h => by cases h)⟩, by show out.length - (k + 1) < out.length - k; omega⟩, ?_⟩
          · by_cases e : j = k
            · subst e; exact hf
            · exact hno rfl j hj (by omega)
          conv => whnf
          (refine And.intro (And.intro (by with_unfolding_all rfl) (by intro q h; cases h)) ?_; refine And.intro ?_ (And.intro ?_ ?_) <;> (conv => whnf) <;> (repeat' (first | exact True.intro | (with_reducible exact rfl) | exact (rfl : List.replicate 0 PV.bad = []) | ((with_reducible refine And.intro ?_ ?_) <;> (first | (with_reducible exact wkV_same _ rfl) | exact wkV_pt rfl rfl | exact wkV_ow rfl rfl rfl | (refine wkV_ow rfl rfl ?_) | (refine wkV_sc (congrArg (Value.int .i64) ?_)) | (refine wkV_sc (congrArg Value.bool ?_)) | exact wkV_ls rfl | ((refine wkV_cl ?_); conv => whnf) | ((refine wkV_tu ?_); conv => whnf) | ((refine wkV_ag ?_); conv => whnf) | (conv => whnf))))))
          all_goals first | exact w1 (by omega) | rfl | trace_state
        | true =>
          have hat := insF_at hkl (hno rfl) hf
          have hlm : (out.map Mg.enc).length = out.length := List.length_map ..
          have hb : (0 : Int) ≤ ((k : Nat) : Int) ∧ ((k : Nat) : Int) < (((out.map Mg.enc).length : Nat) : Int) := ⟨by omega, by omega⟩
          have hgen : ∀ r : List PV, ((out.map Mg.enc).set (0 + ((k : Nat) : Int).toNat) r)[0 + ((k : Nat) : Int).toNat]? = some r := fun r => by
            rw [List.getElem?_set_self (by omega)]
          have hset : ((insF out m).map Mg.enc) = (out.map Mg.enc).set k (updF (out[k]'hkl) m).enc := by rw [hat, List.map_set]
          have hlen2 : (insF out m).length = out.length := by rw [hat, List.length_set]
          generalize out[k]'hkl = x at *
          conv => whnf
          refine ⟨hb, ?_⟩
          conv => whnf
          refine ⟨_, hx, ?_⟩
          conv => whnf
          refine ⟨hb, ?_⟩
          conv => whnf
          refine ⟨_, hx, ?_⟩
          conv => whnf
          refine ⟨hb, ?_⟩
          conv => whnf
          refine ⟨_, hx, ?_⟩
          conv => whnf
          refine ⟨hb, ?_⟩
          conv => whnf
          refine ⟨_, hgen _, ?_⟩
          conv => whnf
          refine ⟨(k + 1, true), [(1002, 1002)], ⟨⟨hkl, (fun h => by cases h), (fun _ => hlen2)⟩, by show out.length - (k + 1) < out.length - k; omega⟩, ?_⟩
          conv => whnf
          (refine And.intro (And.intro (by with_unfolding_all rfl) (by intro q h; cases h)) ?_; refine And.intro ?_ (And.intro ?_ ?_) <;> (conv => whnf) <;> (repeat' (first | exact True.intro | (with_reducible exact rfl) | exact (rfl : List.replicate 0 PV.bad = []) | ((with_reducible refine And.intro ?_ ?_) <;> (first | (with_reducible exact wkV_same _ rfl) | exact wkV_pt rfl rfl | exact wkV_ow rfl rfl rfl | (refine wkV_ow rfl rfl ?_) | (refine wkV_sc (congrArg (Value.int .i64) ?_)) | (refine wkV_sc (congrArg Value.bool ?_)) | exact wkV_ls rfl | ((refine wkV_cl ?_); conv => whnf) | ((refine wkV_tu ?_); conv => whnf) | ((refine wkV_ag ?_); conv => whnf) | (conv => whnf))))))
          all_goals first | exact w1 (by omega) | (refine obj_eq (by kernel_rfl) ?_; rw [Nat.zero_add, Int.toNat_natCast, List.set_set]; exact hset.symm) | rfl | trace_state
    · have ek : k = out.length := by simp only [List.length_map] at h; omega
      subst ek
      clear h
      cases fd with
      | true =>
        have e1 := hfl rfl
        conv => whnf
        refine ⟨i + 1, [(1002, 1002)], ⟨by omega, by omega⟩, ?_⟩
        rw [hsucc]
        conv => whnf
        (refine And.intro (And.intro (by with_unfolding_all rfl) (by intro q h; cases h)) ?_; refine And.intro ?_ (And.intro ?_ ?_) <;> (conv => whnf) <;> (repeat' (first | exact True.intro | (with_reducible exact rfl) | exact (rfl : List.replicate 0 PV.bad = []) | ((with_reducible refine And.intro ?_ ?_) <;> (first | (with_reducible exact wkV_same _ rfl) | exact wkV_pt rfl rfl | exact wkV_ow rfl rfl rfl | (refine wkV_ow rfl rfl ?_) | (refine wkV_sc (congrArg (Value.int .i64) ?_)) | (refine wkV_sc (congrArg Value.bool ?_)) | exact wkV_ls rfl | ((refine wkV_cl ?_); conv => whnf) | ((refine wkV_tu ?_); conv => whnf) | ((refine wkV_ag ?_); conv => whnf) | (conv => whnf))))))
        all_goals first | exact w1 (by omega) | (rw [List.length_map, List.length_map, e1]; done) | (rw [List.length_map, List.length_map, e1]; rfl) | rfl | trace_state
      | false =>
        have e1 : insF out m = out ++ [m] := insF_none fun x hx => by
          obtain ⟨j, hj, rfl⟩ := List.getElem_of_mem hx
          exact hno rfl j hj hj
        have e2 : (out ++ [m]).map Mg.enc = out.map Mg.enc ++ [m.enc] := by rw [List.map_append]; rfl
        have hlm : (out.map Mg.enc).length = out.length := List.length_map ..
        conv => whnf
        ((try ((refine Exists.intro none ?_); (conv => whnf))); first | ((with_reducible refine call_by (hc) ?_); conv => whnf))
        (refine Exists.intro _ (And.intro rfl (And.intro (by intro q _; simp only [List.length_nil]; omega) (And.intro (by intro i hi; exact absurd hi (Nat.not_lt_zero i)) ?_))); conv => whnf)
        have b1 : ((out.map Mg.enc).length + 1) * 176 ≤ 140737488355328 := by omega
        have b2 : (out.map Mg.enc).length + 1 ≤ maxLen := leMax (by omega)
        (refine And.intro rfl ?_; (conv => whnf); refine And.intro (And.intro (And.intro (by kernel_rfl) (And.intro (Nat.le_refl _) (And.intro (b1) (And.intro (b2) (by intro r hr; rw [List.mem_singleton.1 hr]; rfl))))) (And.intro (by decide) rfl)) ?_; conv => whnf)
        refine ⟨i + 1, [(1002, 960)], ⟨by omega, by omega⟩, ?_⟩
        rw [hsucc, e1, e2]
        conv => whnf
        (refine And.intro (And.intro (by with_unfolding_all rfl) (by intro q h; cases h)) ?_; refine And.intro ?_ (And.intro ?_ ?_) <;> (conv => whnf) <;> (repeat' (first | exact True.intro | (with_reducible exact rfl) | exact (rfl : List.replicate 0 PV.bad = []) | ((with_reducible refine And.intro ?_ ?_) <;> (first | (with_reducible exact wkV_same _ rfl) | exact wkV_pt rfl rfl | exact wkV_ow rfl rfl rfl | (refine wkV_ow rfl rfl ?_) | (refine wkV_sc (congrArg (Value.int .i64) ?_)) | (refine wkV_sc (congrArg Value.bool ?_)) | exact wkV_ls rfl | ((refine wkV_cl ?_); conv => whnf) | ((refine wkV_tu ?_); conv => whnf) | ((refine wkV_ag ?_); conv => whnf) | (conv => whnf))))))
        all_goals first | exact w1 (by omega) | exact obj_eq (by kernel_rfl) (congrArg (fun r => r ++ [m.enc]) (List.take_of_length_le (Nat.le_refl (out.map Mg.enc).length))) | (refine obj_eq (by kernel_rfl) ?_; rw [List.take_of_length_le (Nat.le_refl _)]; done) | (refine obj_eq (by kernel_rfl) ?_; rw [List.take_of_length_le (Nat.le_refl _)]; rfl) | (rw [List.length_append]; done) | (rw [List.length_append]; rfl) | rfl | trace_state
  · have ei : i = l.length := by simp only [List.length_map] at h; omega
    subst ei
    rw [List.take_length]
    exact exit_fz2 [(1002, false, 16, (foldL l).map Mg.enc)] (fun q hq => by rw [List.mem_singleton.1 hq]; rfl) (wkV_fz2 (b := false) (List.Mem.head _) rfl)
end Go.Proofs
