/- Plain law: a fold folded is itself; what a leader learns of it. -/
import Derived.Test.YtjgcblmkejnijaaE11
set_option linter.unusedSimpArgs false
set_option linter.unusedVariables false
namespace Go.Proofs
open Go.Pv
set_option maxRecDepth 100000

def MgI (x : Mg) : Prop := MgSz x ∧ ∃ zs : List Mg, x.inner = zs.map Mg.enc ∧ zs.length * 176 ≤ 140737488351232 ∧ ∀ z ∈ zs, MgS z
theorem MgS.i {x : Mg} (h : MgS x) : MgI x := ⟨h.ok2.1, h.ok⟩
theorem MgI.twin {x : Mg} (h : MgI x) : Ctr Try.prog 73 [.ag x.enc] (.ag x.enc) [] := by
  obtain ⟨hz, zs, e, hl, hs⟩ := h
  refine c_twin1 x hz fun r hr => ?_
  rw [e] at hr
  obtain ⟨z, hz, rfl⟩ := List.mem_map.1 hr
  exact ⟨c_rtwin z (hs z hz), z, rfl⟩
theorem MgI.same {m : Mg} (hm : MgI m) : Ctr Try.prog 37 [.ag m.enc, .ag m.enc] (bv true) [] := by
  obtain ⟨hz, zs, e, hl, hs⟩ := hm
  have hlen : m.inner.length = zs.length := by rw [e, List.length_map]
  have kf : Ctr Try.prog 77 [.ag m.enc, .ag m.enc] (bv true) [] := s_flat m m.inner m.inner rfl (leMax (by have := hz.sn; omega)) (leMax (by have := hz.es; omega))
  refine spec_of_body mixed Try.func37 rfl (by kernel_rfl) (by kernel_rfl) ?_; conv => whnf
  ((try ((refine Exists.intro none ?_); (conv => whnf))); first | ((with_reducible refine call_by (kf) ?_); conv => whnf))
  refine tri_for0 mixed (by kernel_rfl) (fun j : Nat => j ≤ zs.length) (fun j => [(5, iv j)]) [] (fun j => zs.length - j) 0 (Nat.zero_le _) ?_ ?_
  · conv => whnf
    (refine And.intro (And.intro (by with_unfolding_all rfl) (by intro q h; cases h)) ?_; refine And.intro ?_ (And.intro ?_ ?_) <;> (conv => whnf) <;> (repeat' (first | exact True.intro | (with_reducible exact rfl) | exact (rfl : List.replicate 0 PV.bad = []) | ((with_reducible refine And.intro ?_ ?_) <;> (first | (with_reducible exact wkV_same _ rfl) | exact wkV_pt rfl rfl | exact wkV_ow rfl rfl rfl | (refine wkV_ow rfl rfl ?_) | (refine wkV_sc (congrArg (Value.int .i64) ?_)) | (refine wkV_sc (congrArg Value.bool ?_)) | exact wkV_ls rfl | ((refine wkV_cl ?_); conv => whnf) | ((refine wkV_tu ?_); conv => whnf) | ((refine wkV_ag ?_); conv => whnf) | (conv => whnf))))))
    all_goals rfl
  intro j hj
  conv => whnf
  ((first | (with_reducible refine split_dec (fun h => ?_) (fun h => ?_)) | (with_reducible refine split_beq (fun h => ?_) (fun h => ?_)) | (with_reducible refine split_bne (fun h => ?_) (fun h => ?_)) | (with_reducible refine split_not (fun h => ?_) (fun h => ?_)) | (with_reducible refine split_beqS (fun h => ?_) (fun h => ?_)) | (with_reducible refine split_intro (fun h => ?_) (fun h => ?_))) <;> conv => whnf)
  · rw [hlen] at h
    have hlt : j < zs.length := by omega
    have hrow : m.inner[((j : Nat) : Int).toNat]? = some (zs[j]'hlt).enc := by rw [e]; exact row_at hlt
    refine ⟨by omega, _, hrow, ?_⟩
    conv => whnf
    refine ⟨by omega, _, hrow, ?_⟩
    conv => whnf
    ((try ((refine Exists.intro none ?_); (conv => whnf))); first | ((with_reducible refine call_by (s_flatS _ (hs _ (List.getElem_mem hlt))) ?_); conv => whnf))
    refine ⟨j + 1, ⟨by omega, by omega⟩, ?_⟩
    conv => whnf
    (refine And.intro (And.intro (by with_unfolding_all rfl) (by intro q h; cases h)) ?_; refine And.intro ?_ (And.intro ?_ ?_) <;> (conv => whnf) <;> (repeat' (first | exact True.intro | (with_reducible exact rfl) | exact (rfl : List.replicate 0 PV.bad = []) | ((with_reducible refine And.intro ?_ ?_) <;> (first | (with_reducible exact wkV_same _ rfl) | exact wkV_pt rfl rfl | exact wkV_ow rfl rfl rfl | (refine wkV_ow rfl rfl ?_) | (refine wkV_sc (congrArg (Value.int .i64) ?_)) | (refine wkV_sc (congrArg Value.bool ?_)) | exact wkV_ls rfl | ((refine wkV_cl ?_); conv => whnf) | ((refine wkV_tu ?_); conv => whnf) | ((refine wkV_ag ?_); conv => whnf) | (conv => whnf))))))
    all_goals first | exact w1 (by omega) | rfl
  · exact exit_plain rfl rfl
theorem MgI.upd {x m : Mg} (h : MgI x) : MgI (updF x m) := ⟨⟨h.1.es, h.1.sn, h.1.inn⟩, h.2⟩
theorem insF_all {p : Mg → Prop} (hu : ∀ x m, p x → p m → p (updF x m)) : ∀ {out : List Mg} {m : Mg}, (∀ x ∈ out, p x) → p m → ∀ x ∈ insF out m, p x
  | [], m, _, hm => fun x hx => by rw [List.mem_singleton.1 hx]; exact hm
  | y :: out, m, h, hm => by
    unfold insF
    split
    · intro x hx
      rcases List.mem_cons.1 hx with rfl | hx
      · exact hu _ _ (h y (List.mem_cons_self ..)) hm
      · exact h x (List.mem_cons_of_mem _ hx)
    · intro x hx
      rcases List.mem_cons.1 hx with rfl | hx
      · exact h _ (List.mem_cons_self ..)
      · exact insF_all hu (fun z hz => h z (List.mem_cons_of_mem _ hz)) hm x hx
theorem foldl_all {p : Mg → Prop} (hu : ∀ x m, p x → p m → p (updF x m)) : ∀ (l s : List Mg), (∀ x ∈ s, p x) → (∀ m ∈ l, p m) → ∀ x ∈ l.foldl insF s, p x
  | [], s, hs, _ => hs
  | m :: l, s, hs, hl => by
    rw [List.foldl_cons]
    exact foldl_all hu l _ (insF_all hu hs (hl m (List.mem_cons_self ..))) fun y hy => hl y (List.mem_cons_of_mem _ hy)
theorem foldL_all {p : Mg → Prop} (hu : ∀ x m, p x → p m → p (updF x m)) {l : List Mg} (hl : ∀ m ∈ l, p m) : ∀ x ∈ foldL l, p x :=
  foldl_all hu l [] (fun x hx => by cases hx) hl

def keyF (m : Mg) : Option (Int × Int × Int) := if m.kind = 6 ∧ m.yes = true then some (m.frm, m.to, m.term) else none
theorem foldsB_iff {a b : Mg} : foldsB a b = true ↔ keyF a = keyF b ∧ keyF a ≠ none := by
  unfold foldsB keyF
  by_cases h1 : a.kind = 6 <;> by_cases h2 : b.kind = 6 <;> by_cases h3 : a.yes = true <;> by_cases h4 : b.yes = true <;> simp [h1, h2, h3, h4]
theorem keyF_upd (x m : Mg) : keyF (updF x m) = keyF x := rfl
def Sep (l : List Mg) : Prop := (l.map keyF).Pairwise fun a b => ¬ (a = b ∧ a ≠ none)
theorem insF_keys : ∀ (out : List Mg) (m : Mg), (insF out m).map keyF = out.map keyF ∨ ((∀ x ∈ out, foldsB x m = false) ∧ (insF out m).map keyF = out.map keyF ++ [keyF m])
  | [], m => .inr ⟨(fun x hx => by cases hx), rfl⟩
  | x :: out, m => by
    unfold insF
    by_cases h : foldsB x m = true
    · rw [if_pos h]; exact .inl rfl
    · rw [if_neg h]
      rcases insF_keys out m with e | ⟨e1, e2⟩
      · exact .inl (by rw [List.map_cons, e]; rfl)
      · refine .inr ⟨fun y hy => ?_, by rw [List.map_cons, e2]; rfl⟩
        rcases List.mem_cons.1 hy with rfl | hy
        · simpa using h
        · exact e1 y hy
theorem insF_sep {out : List Mg} {m : Mg} (h : Sep out) : Sep (insF out m) := by
  unfold Sep at *
  rcases insF_keys out m with e | ⟨e1, e2⟩
  · rw [e]; exact h
  · rw [e2, List.pairwise_append]
    refine ⟨h, List.pairwise_singleton _ _, fun a ha b hb => ?_⟩
    obtain ⟨x, hx, rfl⟩ := List.mem_map.1 ha
    rw [List.mem_singleton.1 hb]
    intro hh
    have := e1 x hx
    rw [foldsB_iff.2 hh] at this; cases this
theorem foldL_sep (l : List Mg) : Sep (foldL l) := by
  have key : ∀ (l s : List Mg), Sep s → Sep (l.foldl insF s) := by
    intro l
    induction l with
    | nil => intro s h; exact h
    | cons x l ih => intro s h; rw [List.foldl_cons]; exact ih _ (insF_sep h)
  exact key l [] List.Pairwise.nil
theorem foldL_id {l : List Mg} (h : Sep l) : foldL l = l := by
  have key : ∀ (l s : List Mg), Sep (s ++ l) → l.foldl insF s = s ++ l := by
    intro l
    induction l with
    | nil => intro s _; simp
    | cons x l ih =>
      intro s h
      have hn : insF s x = s ++ [x] := insF_none fun y hy => by
        unfold Sep at h
        rw [List.map_append, List.pairwise_append] at h
        have := h.2.2 (keyF y) (List.mem_map.2 ⟨y, hy, rfl⟩) (keyF x) (by simp)
        cases hb : foldsB y x with
        | false => rfl
        | true => exact absurd (foldsB_iff.1 hb) this
      rw [List.foldl_cons, hn, ih _ (by rw [List.append_assoc]; exact h), List.append_assoc]; rfl
  exact key l [] h

/-! What is learnt of answers from one node. -/
def mtB (frm to term : Int) (m : Mg) : Bool := decide (keyF m = some (frm, to, term))
theorem mtB_iff {frm to term : Int} {m : Mg} : mtB frm to term m = true ↔ m.kind = 6 ∧ m.yes = true ∧ m.frm = frm ∧ m.to = to ∧ m.term = term := by
  unfold mtB keyF
  rw [decide_eq_true_eq]
  by_cases h1 : m.kind = 6 <;> by_cases h2 : m.yes = true <;> simp [h1, h2]
theorem filter_yes {k : Int × Int × Int} {m : Mg} (hm : keyF m = some k) : ∀ out : List Mg, (insF out m).filter (fun x => decide (keyF x = some k)) = insF (out.filter fun x => decide (keyF x = some k)) m
  | [] => by simp [insF, hm]
  | x :: out => by
    show (if foldsB x m = true then updF x m :: out else x :: insF out m).filter (fun x => decide (keyF x = some k)) = _
    by_cases h : foldsB x m = true
    · have hx : keyF x = some k := by rw [(foldsB_iff.1 h).1]; exact hm
      rw [if_pos h, List.filter_cons, if_pos (by simp [keyF_upd, hx]), List.filter_cons, if_pos (by simp [hx])]
      show _ = (if foldsB x m = true then updF x m :: _ else _)
      rw [if_pos h]
    · have hx : ¬ keyF x = some k := fun e => h (foldsB_iff.2 ⟨by rw [e, hm], by rw [e]; simp⟩)
      rw [if_neg h, List.filter_cons, if_neg (by simp [hx]), List.filter_cons, if_neg (by simp [hx]), filter_yes hm out]
theorem filter_no {k : Int × Int × Int} {m : Mg} (hm : ¬ keyF m = some k) : ∀ out : List Mg, (insF out m).filter (fun x => decide (keyF x = some k)) = out.filter fun x => decide (keyF x = some k)
  | [] => by simp [insF, hm]
  | x :: out => by
    unfold insF
    by_cases h : foldsB x m = true
    · have hx : ¬ keyF x = some k := fun e => hm (by rw [← (foldsB_iff.1 h).1]; exact e)
      rw [if_pos h, List.filter_cons, if_neg (by simp [keyF_upd, hx]), List.filter_cons, if_neg (by simp [hx])]
    · rw [if_neg h, List.filter_cons, List.filter_cons, filter_no hm out]
theorem filter_fold (k : Int × Int × Int) (l : List Mg) : (foldL l).filter (fun x => decide (keyF x = some k)) = foldL (l.filter fun x => decide (keyF x = some k)) := by
  have key : ∀ (l s : List Mg), (l.foldl insF s).filter (fun x => decide (keyF x = some k)) = (l.filter fun x => decide (keyF x = some k)).foldl insF (s.filter fun x => decide (keyF x = some k)) := by
    intro l
    induction l with
    | nil => intro s; rfl
    | cons x l ih =>
      intro s
      rw [List.foldl_cons, ih, List.filter_cons]
      by_cases h : keyF x = some k
      · rw [if_pos (by simp [h]), List.foldl_cons, filter_yes h]
      · rw [if_neg (by simp [h]), filter_no h]
  exact key l []
theorem maxI_eq (a b : Int) : maxI a b = max a b := by unfold maxI; split <;> omega
/-- Answers of one key fold to one. -/
theorem fold_one {k : Int × Int × Int} : ∀ (l : List Mg) (x : Mg), keyF x = some k → (∀ m ∈ l, keyF m = some k) → ∃ y, l.foldl insF [x] = [y] ∧ keyF y = some k ∧ y.index = l.foldl (fun b m => max b m.index) x.index ∧ y.round = l.foldl (fun b m => max b m.round) x.round
  | [], x, hx, _ => ⟨x, rfl, hx, rfl, rfl⟩
  | m :: l, x, hx, h => by
    have hm := h m (List.mem_cons_self ..)
    have hf : foldsB x m = true := foldsB_iff.2 ⟨by rw [hx, hm], by rw [hx]; simp⟩
    have e : insF [x] m = [updF x m] := by unfold insF; rw [if_pos hf]
    obtain ⟨y, h1, h2, h3, h4⟩ := fold_one l (updF x m) (by rw [keyF_upd]; exact hx) fun z hz => h z (List.mem_cons_of_mem _ hz)
    refine ⟨y, by rw [List.foldl_cons, e]; exact h1, h2, ?_, ?_⟩
    · rw [h3, List.foldl_cons]; show l.foldl _ (maxI x.index m.index) = _; rw [maxI_eq]
    · rw [h4, List.foldl_cons]; show l.foldl _ (maxI x.round m.round) = _; rw [maxI_eq]
abbrev Lrn := Int × Int × Int
def lrn1 (p : Mg → Bool) (s : Lrn) (m : Mg) : Lrn := if p m = true then (maxI s.1 (maxI s.2.1 m.index + 1), maxI s.2.1 m.index, maxI s.2.2 m.round) else s
def lrnL (p : Mg → Bool) (s : Lrn) (l : List Mg) : Lrn := l.foldl (lrn1 p) s
theorem lrnL_succ (p : Mg → Bool) (s : Lrn) {l : List Mg} {i : Nat} (h : i < l.length) : lrnL p s (l.take (i + 1)) = lrn1 p (lrnL p s (l.take i)) (l[i]'h) := by
  unfold lrnL
  rw [List.take_succ_eq_append_getElem h, List.foldl_append]; rfl
theorem lrnL_filter (p : Mg → Bool) : ∀ (l : List Mg) (s : Lrn), lrnL p s l = lrnL p s (l.filter p)
  | [], s => rfl
  | m :: l, s => by
    unfold lrnL at *
    rw [List.foldl_cons, List.filter_cons]
    by_cases h : p m = true
    · rw [if_pos h, List.foldl_cons]; exact lrnL_filter p l _
    · rw [if_neg h, show lrn1 p s m = s by unfold lrn1; rw [if_neg h]]; exact lrnL_filter p l s
theorem lrn_all (p : Mg → Bool) : ∀ (l : List Mg) (a b r : Int), (∀ m ∈ l, p m = true) → lrnL p (max a (b + 1), b, r) l = (max a (l.foldl (fun b m => max b m.index) b + 1), l.foldl (fun b m => max b m.index) b, l.foldl (fun b m => max b m.round) r)
  | [], a, b, r, _ => rfl
  | m :: l, a, b, r, h => by
    have hm := h m (List.mem_cons_self ..)
    unfold lrnL
    rw [List.foldl_cons, show lrn1 p (max a (b + 1), b, r) m = (max a (max b m.index + 1), max b m.index, max r m.round) by
      unfold lrn1
      rw [if_pos hm, maxI_eq, maxI_eq, maxI_eq]
      refine Prod.ext ?_ rfl
      show max (max a (b + 1)) (max b m.index + 1) = max a (max b m.index + 1)
      omega]
    exact lrn_all p l a (max b m.index) (max r m.round) fun z hz => h z (List.mem_cons_of_mem _ hz)
theorem foldl_max_ge : ∀ (l : List Mg) (f : Mg → Int) (b c : Int), l.foldl (fun b m => max b (f m)) (max b c) = max b (l.foldl (fun b m => max b (f m)) c)
  | [], f, b, c => rfl
  | m :: l, f, b, c => by
    rw [List.foldl_cons, List.foldl_cons, show max (max b c) (f m) = max b (max c (f m)) by omega]
    exact foldl_max_ge l f b _
theorem lrn_fold (frm to term a b r : Int) (l : List Mg) : lrnL (mtB frm to term) (a, b, r) (foldL l) = lrnL (mtB frm to term) (a, b, r) l ∧ ((foldL l).filter (mtB frm to term)).length ≤ 1 := by
  have hf := filter_fold (frm, to, term) l
  have hf : (foldL l).filter (mtB frm to term) = foldL (l.filter (mtB frm to term)) := hf
  rw [lrnL_filter _ (foldL l), lrnL_filter _ l, hf]
  have hk : ∀ m ∈ l.filter (mtB frm to term), keyF m = some (frm, to, term) := fun m hm => of_decide_eq_true (List.mem_filter.1 hm).2
  have hp : ∀ m ∈ l.filter (mtB frm to term), mtB frm to term m = true := fun m hm => (List.mem_filter.1 hm).2
  generalize l.filter (mtB frm to term) = L at *
  cases L with
  | nil => exact ⟨rfl, Nat.zero_le _⟩
  | cons x L =>
    have hx := hk x (List.mem_cons_self ..)
    obtain ⟨y, h1, h2, h3, h4⟩ := fold_one L x hx fun m hm => hk m (List.mem_cons_of_mem _ hm)
    have e : foldL (x :: L) = [y] := h1
    rw [e]
    refine ⟨?_, Nat.le_refl _⟩
    have hy : mtB frm to term y = true := decide_eq_true h2
    have l1 : lrnL (mtB frm to term) (a, b, r) [y] = (max a (max b y.index + 1), max b y.index, max r y.round) := by
      unfold lrnL lrn1
      rw [List.foldl_cons, List.foldl_nil, if_pos hy, maxI_eq, maxI_eq, maxI_eq]
    have l2 : lrnL (mtB frm to term) (a, b, r) (x :: L) = lrnL (mtB frm to term) (max a (max b x.index + 1), max b x.index, max r x.round) L := by
      unfold lrnL
      rw [List.foldl_cons]
      congr 1
      unfold lrn1
      rw [if_pos (hp x (List.mem_cons_self ..)), maxI_eq, maxI_eq, maxI_eq]
    rw [l1, l2, lrn_all _ L a (max b x.index) (max r x.round) fun m hm => hp m (List.mem_cons_of_mem _ hm), foldl_max_ge L (fun m => m.index) b x.index, foldl_max_ge L (fun m => m.round) r x.round, h3, h4]
theorem fold_lt {p : Mg → Bool} {k : Int × Int × Int} (hp : ∀ m, p m = decide (keyF m = some k)) {l : List Mg} {B : Int} (h : ∀ m ∈ l, p m = true → m.index < B) : ∀ x ∈ foldL l, p x = true → x.index < B := by
  intro x hx hpx
  have hm : x ∈ (foldL l).filter fun x => decide (keyF x = some k) := List.mem_filter.2 ⟨hx, by rw [← hp]; exact hpx⟩
  rw [filter_fold] at hm
  refine foldL_all (p := fun m => m.index < B) (fun a m h1 h2 => ?_) (fun m hm => ?_) x hm
  · show maxI a.index m.index < B
    rw [maxI_eq]
    have h1 : a.index < B := h1
    have h2 : m.index < B := h2
    omega
  · obtain ⟨h1, h2⟩ := List.mem_filter.1 hm
    exact h m h1 (by rw [hp]; exact h2)
end Go.Proofs
