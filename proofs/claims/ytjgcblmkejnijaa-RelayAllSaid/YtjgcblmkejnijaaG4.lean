/- Plain law: what is bundled is what was to be sent. -/
import Derived.Test.YtjgcblmkejnijaaE7
import Derived.Test.YtjgcblmkejnijaaD7
set_option linter.unusedSimpArgs false
set_option linter.unusedVariables false
namespace Go.Proofs
open Go.Pv
set_option maxRecDepth 100000

noncomputable def emitT (p : List Pl) (frm up : Int) (l : List Mg) (i : Nat) (m : Mg) : List (Mg ⊕ Int × List Mg) :=
  if pxR p frm up l (rgM p frm (regP p frm) m) < 0 then [.inl m] else if sentR p frm up l (rgM p frm (regP p frm) m) i = true then [] else [.inr (pxR p frm up l (rgM p frm (regP p frm) m), grp p frm l (rgM p frm (regP p frm) m))]
noncomputable def outT (p : List Pl) (frm up : Int) (l : List Mg) : Nat → List (Mg ⊕ Int × List Mg)
  | 0 => []
  | i + 1 => outT p frm up l i ++ (match l[i]? with | some m => emitT p frm up l i m | none => [])
theorem outT_succ {p : List Pl} {frm up : Int} {l : List Mg} {i : Nat} (h : i < l.length) : outT p frm up l (i + 1) = outT p frm up l i ++ emitT p frm up l i (l[i]'h) := by
  conv => lhs; unfold outT
  rw [List.getElem?_eq_getElem h]
abbrev encT (frm : Int) (x : Mg ⊕ Int × List Mg) : List PV := match x with
  | .inl m => m.enc
  | .inr (px, g) => relV frm px (g.map Mg.enc)
theorem outT_enc (p : List Pl) (frm up : Int) (l : List Mg) : ∀ i, i ≤ l.length → outR p frm up l i = (outT p frm up l i).map (encT frm)
  | 0, _ => rfl
  | i + 1, hi => by
    have hlt : i < l.length := by omega
    rw [outR_succ hlt, outT_succ hlt, List.map_append, outT_enc p frm up l i (by omega)]
    congr 1
    unfold emitR emitT
    repeat' split
    all_goals rfl
def contT : Mg ⊕ Int × List Mg → List Mg
  | .inl m => [m]
  | .inr (_, g) => g
/-- What of a region has gone. -/
noncomputable def goneR (p : List Pl) (frm up : Int) (l : List Mg) (i : Nat) (r : Int) : List Mg := if sentR p frm up l r i = true then grp p frm l r else []
noncomputable def isStr (p : List Pl) (frm up : Int) (l : List Mg) (m : Mg) : Bool := decide (pxR p frm up l (rgM p frm (regP p frm) m) < 0)
theorem cont_step (p : List Pl) (hp : plsB p = true) (frm up : Int) (l : List Mg) : ∀ i, i ≤ l.length → ((outT p frm up l i).flatMap contT).Perm ((l.take i).filter (isStr p frm up l) ++ (goneR p frm up l i 0 ++ (goneR p frm up l i 1 ++ goneR p frm up l i 2)))
  | 0, _ => by
    unfold goneR
    rw [sentR_0, sentR_0, sentR_0]
    exact List.Perm.refl _
  | i + 1, hi => by
    have hlt : i < l.length := by omega
    have ih := cont_step p hp frm up l i (by omega)
    have hh := regP_in hp frm
    have hr := rgM_in hp hh (frm := frm) (l[i]'hlt)
    have hsc := fun r => sentR_succ (p := p) (frm := frm) (up := up) hlt r
    rw [outT_succ hlt, List.flatMap_append, List.take_succ_eq_append_getElem hlt, List.filter_append]
    by_cases hs : pxR p frm up l (rgM p frm (regP p frm) (l[i]'hlt)) < 0
    · have e1 : emitT p frm up l i (l[i]'hlt) = [.inl (l[i]'hlt)] := by unfold emitT; rw [if_pos hs]
      have e2 : [l[i]'hlt].filter (isStr p frm up l) = [l[i]'hlt] := by
        have : isStr p frm up l (l[i]'hlt) = true := by unfold isStr; rw [decide_eq_true hs]
        rw [List.filter_cons, if_pos this]; rfl
      have e3 : ∀ r, goneR p frm up l (i + 1) r = goneR p frm up l i r := fun r => by
        unfold goneR
        rw [hsc r]
        by_cases e : rgM p frm (regP p frm) (l[i]'hlt) = r
        · rw [e] at hs
          rw [decide_eq_false (show ¬ 0 ≤ pxR p frm up l r by omega), Bool.false_and, Bool.or_false]
        · rw [decide_eq_false e, Bool.and_false, Bool.or_false]
      rw [e1, e2, e3, e3, e3]
      have h1 : ([Sum.inl (l[i]'hlt)] : List (Mg ⊕ Int × List Mg)).flatMap contT = [l[i]'hlt] := rfl
      rw [h1]
      refine (ih.append_right _).trans ?_
      generalize goneR p frm up l i 0 ++ (goneR p frm up l i 1 ++ goneR p frm up l i 2) = S
      generalize (l.take i).filter (isStr p frm up l) = F
      rw [List.append_assoc F S, List.append_assoc F _ S]
      exact List.Perm.append_left _ List.perm_append_comm
    · have e2 : [l[i]'hlt].filter (isStr p frm up l) = [] := by
        have : isStr p frm up l (l[i]'hlt) = false := by unfold isStr; rw [decide_eq_false hs]
        rw [List.filter_cons, if_neg (by rw [this]; decide)]; rfl
      rw [e2, List.append_nil]
      have hpx : ∀ r, rgM p frm (regP p frm) (l[i]'hlt) = r → 0 ≤ pxR p frm up l r := fun r e => by rw [← e]; omega
      by_cases hq : sentR p frm up l (rgM p frm (regP p frm) (l[i]'hlt)) i = true
      · have e1 : emitT p frm up l i (l[i]'hlt) = [] := by unfold emitT; rw [if_neg hs, if_pos hq]
        have e3 : ∀ r, goneR p frm up l (i + 1) r = goneR p frm up l i r := fun r => by
          unfold goneR
          rw [hsc r]
          by_cases e : rgM p frm (regP p frm) (l[i]'hlt) = r
          · rw [e] at hq; rw [hq, Bool.true_or]
          · rw [decide_eq_false e, Bool.and_false, Bool.or_false]
        rw [e1, e3, e3, e3]
        simpa using ih
      · have hq : sentR p frm up l (rgM p frm (regP p frm) (l[i]'hlt)) i = false := by simpa using hq
        have e1 : emitT p frm up l i (l[i]'hlt) = [.inr (pxR p frm up l (rgM p frm (regP p frm) (l[i]'hlt)), grp p frm l (rgM p frm (regP p frm) (l[i]'hlt)))] := by unfold emitT; rw [if_neg hs, if_neg (by rw [hq]; decide)]
        rw [e1]
        have h1 : ([Sum.inr (pxR p frm up l (rgM p frm (regP p frm) (l[i]'hlt)), grp p frm l (rgM p frm (regP p frm) (l[i]'hlt)))] : List (Mg ⊕ Int × List Mg)).flatMap contT = grp p frm l (rgM p frm (regP p frm) (l[i]'hlt)) := by simp [contT]
        rw [h1]
        have e3 : ∀ r, ¬ rgM p frm (regP p frm) (l[i]'hlt) = r → goneR p frm up l (i + 1) r = goneR p frm up l i r := fun r e => by
          unfold goneR
          rw [hsc r, decide_eq_false e, Bool.and_false, Bool.or_false]
        have e4 : ∀ r, rgM p frm (regP p frm) (l[i]'hlt) = r → goneR p frm up l (i + 1) r = grp p frm l r ∧ goneR p frm up l i r = [] := fun r e => by
          unfold goneR
          rw [hsc r, decide_eq_true (hpx r e), decide_eq_true e]
          rw [e] at hq
          rw [hq]; exact ⟨rfl, rfl⟩
        refine (ih.append_right _).trans ?_
        rw [List.append_assoc]
        refine List.Perm.append_left _ ?_
        rcases hr with e | e | e
        · rw [e3 1 (by omega), e3 2 (by omega), (e4 0 e).1, (e4 0 e).2, e, List.nil_append]
          exact List.perm_append_comm
        · rw [e3 0 (by omega), e3 2 (by omega), (e4 1 e).1, (e4 1 e).2, e, List.nil_append, List.append_assoc]
          exact List.Perm.append_left _ List.perm_append_comm
        · rw [e3 0 (by omega), e3 1 (by omega), (e4 2 e).1, (e4 2 e).2, e, List.append_nil, List.append_assoc]
theorem filter_two {α : Type} (q : α → Bool) (l : List α) : (l.filter q ++ l.filter fun x => !q x).Perm l := List.filter_append_perm q l
theorem cont_perm (p : List Pl) (hp : plsB p = true) (frm up : Int) (l : List Mg) : ((outT p frm up l l.length).flatMap contT).Perm l := by
  refine (cont_step p hp frm up l l.length (Nat.le_refl _)).trans ?_
  rw [List.take_length]
  refine List.Perm.trans ?_ (filter_two (isStr p frm up l) l)
  refine List.Perm.append_left _ ?_
  have hh := regP_in hp frm
  -- what has gone of a region
  have hg : ∀ r, goneR p frm up l l.length r = (l.filter fun x => !isStr p frm up l x).filter fun m => decide (rgM p frm (regP p frm) m = r) := fun r => by
    unfold goneR sentR
    rw [List.take_length, List.filter_filter]
    by_cases h0 : 0 ≤ pxR p frm up l r
    · rw [decide_eq_true h0, Bool.true_and]
      have hlen : 2 ≤ (grp p frm l r).length := by
        unfold pxR at h0
        split at h0
        · split at h0
          · assumption
          · omega
        · omega
      have hany : (l.any fun m => decide (rgM p frm (regP p frm) m = r)) = true := by
        have : grp p frm l r ≠ [] := fun e => by rw [e] at hlen; simp at hlen
        obtain ⟨m, hm⟩ := List.exists_mem_of_ne_nil _ this
        obtain ⟨h1, h2⟩ := List.mem_filter.1 hm
        exact List.any_eq_true.2 ⟨m, h1, h2⟩
      rw [if_pos hany]
      unfold grp
      refine List.filter_congr fun m _ => ?_
      by_cases e : rgM p frm (regP p frm) m = r
      · rw [decide_eq_true e]
        unfold isStr
        rw [e, decide_eq_false (by omega)]; rfl
      · rw [decide_eq_false e]; rfl
    · rw [decide_eq_false h0, Bool.false_and, if_neg (by decide)]
      symm
      rw [List.filter_eq_nil_iff]
      intro m _ hm
      rw [Bool.and_eq_true] at hm
      have e := of_decide_eq_true hm.1
      have h2 := hm.2
      unfold isStr at h2
      rw [e, decide_eq_true (by omega)] at h2
      cases h2
  rw [hg, hg, hg]
  have hin : ∀ m ∈ l.filter (fun x => !isStr p frm up l x), rgM p frm (regP p frm) m = 0 ∨ rgM p frm (regP p frm) m = 1 ∨ rgM p frm (regP p frm) m = 2 := fun m _ => rgM_in hp hh m
  generalize l.filter (fun x => !isStr p frm up l x) = L at *
  refine List.Perm.trans ?_ (filter_two (fun m => decide (rgM p frm (regP p frm) m = 0)) L)
  refine List.Perm.append_left _ ?_
  refine List.Perm.trans ?_ (filter_two (fun m => decide (rgM p frm (regP p frm) m = 1)) _)
  rw [List.filter_filter, List.filter_filter]
  refine List.Perm.of_eq ?_
  congr 1
  · refine List.filter_congr fun m hm => ?_
    rcases hin m hm with e | e | e <;> simp [e]
  · refine List.filter_congr fun m hm => ?_
    rcases hin m hm with e | e | e <;> simp [e]
def gotT (to : Int) : Mg ⊕ Int × List Mg → List Mg
  | .inl m => if m.to = to then [m] else []
  | .inr (px, g) => (g.filter (isOwn px) ++ g.filter (isOn px)).filter fun m => decide (m.to = to)
theorem open_perm {g : List Mg} (h9 : ∀ m ∈ g, ¬ m.kind = 9) (px : Int) : (g.filter (isOwn px) ++ g.filter (isOn px)).Perm g := by
  have e : g.filter (isOn px) = g.filter fun m => !isOwn px m := List.filter_congr fun m hm => by
    unfold isOn isOwn; rw [if_neg (h9 m hm), if_neg (h9 m hm)]
  rw [e]
  exact filter_two _ _
theorem got_perm (p : List Pl) (hp : plsB p = true) (frm up : Int) (l : List Mg) (h9 : ∀ m ∈ l, ¬ m.kind = 9) (to : Int) : ((outT p frm up l l.length).flatMap (gotT to)).Perm (l.filter fun m => decide (m.to = to)) := by
  have hsub : ∀ x ∈ outT p frm up l l.length, ∀ m ∈ contT x, m ∈ l := fun x hx m hm => (cont_perm p hp frm up l).mem_iff.1 (List.mem_flatMap.2 ⟨x, hx, hm⟩)
  refine List.Perm.trans ?_ ((cont_perm p hp frm up l).filter _)
  generalize outT p frm up l l.length = T at *
  induction T with
  | nil => exact List.Perm.refl _
  | cons x T ih =>
    rw [List.flatMap_cons, List.flatMap_cons, List.filter_append]
    refine List.Perm.append ?_ (ih fun y hy => hsub y (List.mem_cons_of_mem _ hy))
    have hx := hsub x (List.mem_cons_self ..)
    cases x with
    | inl m =>
      show (if m.to = to then [m] else []).Perm ([m].filter _)
      rw [List.filter_cons]
      by_cases e : m.to = to
      · rw [if_pos e, if_pos (by simpa using e)]; exact List.Perm.refl _
      · rw [if_neg e, if_neg (by simpa using e)]; exact List.Perm.refl _
    | inr q =>
      obtain ⟨px, g⟩ := q
      exact (open_perm (fun m hm => h9 m (hx m hm)) px).filter _
theorem bestG_bit {p : List Pl} (hp : plsB p = true) {bits : Int} {n : Nat} (h : bestP p bits = n) : tb bits n = true := by
  by_cases hex : ∃ y ∈ p, tb bits y.node.toNat = true
  · obtain ⟨y, hy, hb⟩ := hex
    obtain ⟨q, hq, e⟩ := best_some hy hb
    have := hq.bit
    rw [show q.node.toNat = n by omega] at this
    exact this
  · have := best_none (l := p) (bits := bits) fun y hy => by
      cases ht : tb bits y.node.toNat with
      | false => rfl
      | true => exact absurd ⟨y, hy, ht⟩ hex
    omega
theorem bitsG_mem {g : List Mg} (hto : ∀ m ∈ g, 0 ≤ m.to ∧ m.to < 7) {n : Nat} (h : tb (bitsG g) n = true) : ∃ m ∈ g, m.to = n := by
  have key : ∀ (g : List Mg) (b : Int), (∀ m ∈ g, 0 ≤ m.to ∧ m.to < 7) → tb (g.foldl (fun b m => bor b (shl 1 m.to)) b) n = true → tb b n = true ∨ ∃ m ∈ g, m.to = n := by
    intro g
    induction g with
    | nil => intro b _ h; exact .inl h
    | cons x g ih =>
      intro b ht h
      rw [List.foldl_cons] at h
      rcases ih _ (fun m hm => ht m (List.mem_cons_of_mem _ hm)) h with h | ⟨m, hm, e⟩
      · rw [tb_or, Bool.or_eq_true] at h
        rcases h with h | h
        · exact .inl h
        · obtain ⟨k, hk⟩ : ∃ k : Nat, x.to = k := ⟨x.to.toNat, by have := ht x (List.mem_cons_self ..); omega⟩
          have := ht x (List.mem_cons_self ..)
          rw [hk, tb_shl _ _ (by omega)] at h
          refine .inr ⟨x, List.mem_cons_self .., ?_⟩
          have := of_decide_eq_true h
          omega
      · exact .inr ⟨m, List.mem_cons_of_mem _ hm, e⟩
  rcases key g 0 hto h with h | h
  · rw [tb_zero] at h; cases h
  · exact h
/-- Of a relayed message: its proxy is up, and has one of its own; what is in it was to be sent. -/
theorem rel_ok (p : List Pl) (hp : plsB p = true) (frm up : Int) (l : List Mg) {px : Int} {g : List Mg} : ∀ i, i ≤ l.length → Sum.inr (px, g) ∈ outT p frm up l i → (∃ n : Nat, px = n ∧ n < 7 ∧ tb up n = true) ∧ (∃ m ∈ g, m.to = px) ∧ g.length ≤ l.length ∧ ∀ m ∈ g, m ∈ l
  | 0, _, h => by cases h
  | i + 1, hi, h => by
    have hlt : i < l.length := by omega
    rw [outT_succ hlt] at h
    rcases List.mem_append.1 h with h | h
    · exact rel_ok p hp frm up l i (by omega) h
    · unfold emitT at h
      split at h
      · simp at h
      · split at h
        · cases h
        · rename_i hs hq
          simp only [List.mem_singleton, Sum.inr.injEq, Prod.mk.injEq] at h
          obtain ⟨rfl, rfl⟩ := h
          generalize rgM p frm (regP p frm) (l[i]'hlt) = r at *
          have hbest : pxR p frm up l r = bestP (regL p r) (iand .i64 (bitsG (grp p frm l r)) up) := by
            unfold pxR at hs ⊢
            split at hs
            · split at hs
              · split at hs
                · rename_i h1 h2 h3
                  rw [if_pos h1, if_pos h2, if_pos h3]
                · exact absurd (by decide) hs
              · exact absurd (by decide) hs
            · exact absurd (by decide) hs
          have hne : r ≠ regP p frm := by
            unfold pxR at hs
            split at hs
            · assumption
            · exact absurd (by decide) hs
          have hto : ∀ m ∈ grp p frm l r, 0 ≤ m.to ∧ m.to < 7 := fun m hm => by
            have h2 := of_decide_eq_true (List.mem_filter.1 hm).2
            unfold rgM at h2
            split at h2
            · rename_i ha
              unfold awayM at ha
              split at ha
              · cases ha
              · rename_i hc; exact Classical.byContradiction hc
            · exact absurd h2.symm hne
          obtain ⟨n, hn⟩ : ∃ n : Nat, pxR p frm up l r = n := ⟨(pxR p frm up l r).toNat, by omega⟩
          have hb := bestG_bit (regL_ok hp r) (hbest.symm.trans hn)
          rw [show iand .i64 (bitsG (grp p frm l r)) up = band (bitsG (grp p frm l r)) up from rfl, tb_and, Bool.and_eq_true] at hb
          obtain ⟨m, hm, e⟩ := bitsG_mem hto hb.1
          have := hto m hm
          exact ⟨⟨n, hn, by omega, hb.2⟩, ⟨m, hm, by rw [e, hn]⟩, List.length_filter_le _ _, fun m hm => (List.mem_filter.1 hm).1⟩
theorem str_ok (p : List Pl) (frm up : Int) (l : List Mg) {m : Mg} : ∀ i, i ≤ l.length → Sum.inl m ∈ outT p frm up l i → m ∈ l
  | 0, _, h => by cases h
  | i + 1, hi, h => by
    have hlt : i < l.length := by omega
    rw [outT_succ hlt] at h
    rcases List.mem_append.1 h with h | h
    · exact str_ok p frm up l i (by omega) h
    · unfold emitT at h
      split at h
      · simp only [List.mem_singleton, Sum.inl.injEq] at h
        rw [h]; exact List.getElem_mem hlt
      · split at h
        · cases h
        · simp at h
end Go.Proofs
