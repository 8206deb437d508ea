/- Plain law: who follows a leader, entry by entry. -/
import Derived.Test.YtbhfokahocgndaaGreatN1
import Derived.Test.YtbhfokahocgndaaGreatK5
import Derived.Test.YtbhfokahocgndaaGreatC54
set_option linter.unusedSimpArgs false
set_option linter.unusedVariables false
namespace Go.Proofs
open Go.Pv
set_option maxRecDepth 100000

abbrev h1c (c : Conf) (l : List Ent) : Hrd := ⟨1, -1, 0, 0, c, [], l⟩
abbrev fl (c : Conf) (id : Int) (l : List Ent) (cm lead w q : Int) : Rft := ⟨id, h1c c l, cm, 0, lead, w, q, 0, 0, zA, zA, zA, []⟩
def okL (l : List Ent) : Prop := ∀ x ∈ l, x.term = 1 ∧ entryB x = true
theorem okL_nil : okL [] := fun x h => absurd h (List.not_mem_nil)
theorem okL_snoc {l : List Ent} {x : Ent} (h : okL l) (h1 : x.term = 1) (h2 : entryB x = true) : okL (l ++ [x]) := by
  intro y hy
  rcases List.mem_append.1 hy with hy | hy
  · exact h y hy
  · rw [List.mem_singleton.1 hy]; exact ⟨h1, h2⟩
theorem okL_row : ∀ {l : List Ent} (_ : okL l) {b : Int} (_ : b ≤ 1), rowB l b 1 = true
  | [], _, _, _ => rfl
  | x :: l, h, b, hb => by
    obtain ⟨h1, h2⟩ := h x (List.mem_cons_self ..)
    have ih := okL_row (l := l) (fun y hy => h y (List.mem_cons_of_mem _ hy)) (b := x.term) (by omega)
    unfold rowB
    rw [ih, h2, h1, decide_eq_true (by omega)]; rfl
theorem h1_hard {c : Conf} (hc' : confB c = true) {l : List Ent} (h : okL l) : hardB (h1c c l) = true := by
  unfold hardB
  rw [show (h1c c l).baseConf = c from rfl, hc', show rowB (h1c c l).log (h1c c l).baseTerm (h1c c l).term = true from okL_row h (b := 0) (by decide)]
  have hA : HardA (h1c c l) := ⟨by show (0 : Int) ≤ 1 ∧ (1 : Int) ≤ 1099511627776; decide, by show (-1 : Int) ≤ -1 ∧ (-1 : Int) ≤ 6; decide, by show (0 : Int) ≤ 0 ∧ (0 : Int) ≤ 1099511627776; decide, by show (0 : Int) ≤ 0 ∧ (0 : Int) ≤ 1; decide, by show (0 : Int) = 0 ↔ (0 : Int) = 0; decide⟩
  rw [dec_true hA]; rfl
theorem h1_last (c : Conf) {l : List Ent} (hl : l.length ≤ 1000) : lastI (h1c c l) = l.length := by
  rw [lastI_sum (h := h1c c l) (by show (0 : Int) ≤ 0; decide) (by show (0 : Int) + (l.length : Int) < _; omega)]
  show (0 : Int) + (l.length : Int) = _
  omega
theorem fl_right {c : Conf} (hc' : confB c = true) {l : List Ent} (h : okL l) (hl : l.length ≤ 1000) {id cm lead w q : Int} (hid : 0 ≤ id ∧ id < 7) (hcm : 0 ≤ cm ∧ cm ≤ l.length) (hle : -1 ≤ lead ∧ lead < 7) (hw : 0 ≤ w ∧ w ≤ 100) (hq : 0 ≤ q ∧ q ≤ 1099511627776) : rightB (fl c id l cm lead w q) = true := by
  have h1 : hardB (h1c c l) = true := h1_hard hc' h
  have h7 := h1_last c hl
  have h2 : inR 6 id = true := inR_yes (by omega)
  have h4 : inR 100 w = true := inR_yes hw
  have h5 : inR far q = true := inR_yes hq
  have h8 : rdsB (fl c id l cm lead w q) = true := by
    unfold rdsB
    rw [if_neg (by show ¬ 4 < 0; omega), if_neg (by show ¬ (0 < 0 ∧ _); omega)]; rfl
  have hz : arrR far zA = true := by decide
  have hz0 : arrR (lastI (h1c c l)) zA = true := by
    rw [h7]; unfold arrR
    have : inR (l.length : Int) 0 = true := inR_yes (by omega)
    rw [this]; rfl
  unfold rightB
  simp only [Bool.and_eq_true, decide_eq_true_eq]
  exact ⟨h1, h2, by show (0 : Int) ≤ cm; omega, by show cm ≤ lastI (h1c c l); rw [h7]; omega, by show inR 3 0 = true; decide, by show (-1 : Int) ≤ lead; omega, by show lead < (7 : Int); omega, h4, ⟨h5, by show inR far 0 = true; decide⟩, by show inR 127 0 = true; decide, hz, hz0, hz, h8, by rw [if_neg (by show ¬ (0 : Int) = 3; decide)]⟩
theorem putG_snoc (l : List Ent) (x : Ent) : putG l l.length [x] = l ++ [x] := by
  unfold putG
  rw [List.take_length, List.drop_length]; rfl
abbrev lt1 (l : List Ent) : Int := if l.length = 0 then 0 else 1
theorem behind_ok {l : List Ent} (h : okL l) {n : Nat} (hn : n ≤ l.length) : behind l 0 n = if n = 0 then 0 else 1 := by
  cases n with
  | zero => rw [behind_0, if_pos rfl]
  | succ k => rw [behind_succ (by omega), if_neg (by omega)]; exact (h _ (List.getElem_mem ..)).1
theorem h1_term (c : Conf) {l : List Ent} (h : okL l) {n : Nat} (hn : n ≤ l.length) : termAt (h1c c l) n = if n = 0 then 0 else 1 := by
  rw [termAt_nat (h := h1c c l) (j := n) (n := n) (by show (n : Int) = (0 : Int) + n; omega) hn]
  exact behind_ok h hn
/-- A message with one entry more. -/
structure One (c : Conf) (id : Int) (l : List Ent) (frm : Int) (x : Ent) (m : Mg) : Prop where
  kind : m.kind = 5
  frm : m.frm = frm
  to : m.to = id
  term : m.term = 1
  index : m.index = l.length
  logT : m.logTerm = lt1 l
  commit : m.commit = l.length
  round : m.round = l.length
  es : m.entries = [x]
theorem grow_one {c : Conf} (hc' : confB c = true) {id : Int} {l : List Ent} (h : okL l) (hl : l.length ≤ 500) {frm : Int} {x : Ent} (hx1 : x.term = 1) (hx2 : entryB x = true) {cm : Int} (hcm : 0 ≤ cm ∧ cm ≤ l.length) {m : Mg} (o : One c id l frm x m) :
    growE (h1c c l) cm m = 0 ∧ growO (h1c c l) cm m = ⟨h1c c (l ++ [x]), l.length, true, (l.length : Int) + 1⟩ := by
  have hh := h1_hard (l := l) hc' h
  have hla := h1_last c (l := l) (by omega)
  have hP : gP (h1c c l) m = l.length := by
    unfold gP
    rw [o.index, if_neg (by show ¬ (l.length : Int) < 0; omega)]
  have hT : gT (h1c c l) m = lt1 l := by
    unfold gT
    rw [o.index, if_neg (by show ¬ (l.length : Int) < 0; omega), o.logT]
  have hL : gL (h1c c l) m = [x] := by
    unfold gL
    rw [o.es, o.index, show ((h1c c l).base - (l.length : Int)).toNat = 0 from by show ((0 : Int) - (l.length : Int)).toNat = 0; omega]; rfl
  have hR : gRight (h1c c l) cm m := by
    refine ⟨⟨by show (0 : Int) ≤ cm; omega, by rw [hla]; omega⟩, by rw [o.index]; omega, by rw [o.logT]; unfold lt1; split <;> omega, by rw [o.commit]; omega, by rw [o.es]; show ((1 : Nat) : Int) ≤ 8; decide⟩
  have ht := h1_term c h (n := l.length) (Nat.le_refl _)
  have hf : fits (h1c c l) (gP (h1c c l) m) (gT (h1c c l) m) = true := by
    rw [hP, hT]
    unfold fits
    rw [ht]
    unfold lt1
    split <;> decide
  have hb : gBrk (h1c c l) cm (gP (h1c c l) m) (gL (h1c c l) m) = false := by
    refine gBrk_f fun k hk h1 => ?_
    rw [hP] at h1
    omega
  obtain ⟨e1, e2⟩ := growE_put hh hR hf hb
  have hpH : putH (h1c c l) (gP (h1c c l) m) (gL (h1c c l) m) = h1c c (l ++ [x]) := by
    unfold putH
    rw [hP, hL, show ((l.length : Int) - (h1c c l).base).toNat = l.length from by show ((l.length : Int) - 0).toNat = l.length; omega, putG_snoc]
  refine ⟨?_, ?_⟩
  · rw [e1]
    unfold putHE
    rw [if_pos hh, if_pos]
    rw [hP, hL, hla]
    refine ⟨⟨by show (0 : Int) ≤ _; omega, Int.le_refl _⟩, ?_⟩
    show rowB [x] (termAt (h1c c l) l.length) 1 = true
    refine okL_row (l := [x]) (fun y hy => by rw [List.mem_singleton.1 hy]; exact ⟨hx1, hx2⟩) ?_
    rw [ht]; split <;> omega
  · rw [e2, hpH, hP, hL, o.commit]
    have : emax cm (emin (l.length : Int) ((l.length : Int) + (([x] : List Ent).length : Nat))) = l.length := by
      rw [emax_eq, emin_eq, List.length_singleton]; omega
    rw [this]; rfl
/-- The wait of who follows. -/
noncomputable abbrev wF (c : Conf) (id : Int) (l : List Ent) (cm w : Int) : Int := delay (inForce (fl c id l cm 0 w 0)) id
theorem c_Take_one {c : Conf} (hc' : confB c = true) {id : Int} (hid : 0 ≤ id ∧ id < 7) {l : List Ent} (h : okL l) (hl : l.length ≤ 500) {frm : Int} (hfr : 0 ≤ frm ∧ frm < 7) (hne : frm ≠ id) {x : Ent} (hx1 : x.term = 1) (hx2 : entryB x = true) {cm lead w q : Int} (hcm : 0 ≤ cm ∧ cm ≤ l.length) (hle : -1 ≤ lead ∧ lead < 7) (hw : 0 ≤ w ∧ w ≤ 100) (hq : 0 ≤ q ∧ q ≤ 1099511627776) {m : Mg} (o : One c id l frm x m) :
    ∃ w' : Int, w' = delay (inForce (setH (fl c id l cm lead w q) (h1c c (l ++ [x])) l.length)) id ∧ Ctr Tryz.prog 29 [.ag (fl c id l cm lead w q).enc, .ag m.enc] (.tu [.ag (fl c id (l ++ [x]) l.length frm w' 0).enc, .sl 16 [msgV 6 id frm 1 ((l.length : Int) + 1) 0 0 (l.length : Int) true .nl cz .nl], iv 0]) [] := by
  have hr := fl_right hc' h (by omega) hid hcm hle hw hq
  have hg := rgt_of hr
  have hf : Fit (fl c id l cm lead w q) := hg.fit (by show l.length < _; omega)
  obtain ⟨e1, e2⟩ := grow_one hc' h hl hx1 hx2 hcm o
  have hM : rightM (fl c id l cm lead w q) m = true := by
    unfold rightM
    rw [o.frm, o.to, o.kind, o.term, o.index, o.round, o.logT]
    simp only [Bool.and_eq_true, decide_eq_true_eq]
    have hfa : inR far (l.length : Int) = true := inR_yes (by show (0 : Int) ≤ l.length ∧ (l.length : Int) ≤ 1099511627776; omega)
    exact ⟨inR_yes (by omega), hne, by first | trivial | rfl, by first | trivial | decide, by first | trivial | decide, ⟨inR_yes (by decide), inR_yes (by unfold lt1; split <;> decide)⟩, hfa, hfa⟩
  have k := c_take_5 (fl c id l cm lead w q) hf [] (by decide) m (by rw [o.frm]; exact hfr) (by rw [o.term]; decide) o.term (by rw [o.es]; show 1 ≤ 4294967; decide) (by
    rw [mkM_eq o.kind]
    intro _
    rw [show growO (fl c id l cm lead w q).hard (fl c id l cm lead w q).commit m = _ from e2]
    show (l ++ [x]).length ≤ maxLen
    rw [List.length_append]
    exact smallM (by show l.length + 1 ≤ _; omega))
  rw [mkM_eq o.kind] at k
  have a1 : appE (fl c id l cm lead w q) m = 0 := by
    unfold appE
    rw [if_neg (by show ¬ (0 : Int) = 3; decide)]; exact e1
  have a2 : appR (fl c id l cm lead w q) m = folR (setH (fl c id l cm lead w q) (h1c c (l ++ [x])) l.length) m := by
    unfold appR
    rw [if_neg (by show ¬ (0 : Int) = 3; decide), if_pos (by exact e1), show growO (fl c id l cm lead w q).hard (fl c id l cm lead w q).commit m = _ from e2]
  have a3 : appO (fl c id l cm lead w q) m = [folM (setH (fl c id l cm lead w q) (h1c c (l ++ [x])) l.length) m ((l.length : Int) + 1) true] := by
    unfold appO
    rw [if_neg (by show ¬ (0 : Int) = 3; decide), if_pos (by exact e1), show growO (fl c id l cm lead w q).hard (fl c id l cm lead w q).commit m = _ from e2]
  rw [a1, a2, a3] at k
  have ek := c_Take_ok (fl c id l cm lead w q) m (by show 0 ≤ _; decide) (by show l.length ≤ _; omega) (by show 0 ≤ _; decide) hr hM _ _ k
  refine ⟨_, rfl, ?_⟩
  have hfol : folR (setH (fl c id l cm lead w q) (h1c c (l ++ [x])) l.length) m = fl c id (l ++ [x]) l.length frm (delay (inForce (setH (fl c id l cm lead w q) (h1c c (l ++ [x])) l.length)) id) 0 := by
    show ({ fallR (setH (fl c id l cm lead w q) (h1c c (l ++ [x])) l.length) 1 m.frm with quiet := 0 } : Rft) = _
    unfold fallR
    rw [o.frm]; rfl
  rw [hfol] at ek
  have hrow : folM (setH (fl c id l cm lead w q) (h1c c (l ++ [x])) l.length) m ((l.length : Int) + 1) true = msgV 6 id frm 1 ((l.length : Int) + 1) 0 0 (l.length : Int) true .nl cz .nl := by
    unfold folM
    rw [hfol, o.frm, o.round]
  rw [hrow] at ek
  exact ek
/-- A tick of who has just heard. -/
theorem tick_heard {c : Conf} {id : Int} (hid : 0 ≤ id ∧ id < 7) {l : List Ent} {cm frm w : Int} (hw : w = delay (inForce (fl c id l cm frm w 0)) id) :
    ∃ w' : Int, (0 ≤ w' ∧ w' ≤ 100) ∧ tickR (fl c id l cm frm w 0) = fl c id l cm frm w' 1 ∧ tickO (fl c id l cm frm w 0) = [] := by
  have hdf := delay_fit (inForce (fl c id l cm frm w 0)) hid
  rw [← hw] at hdf
  cases hv : isVoter (fl c id l cm frm w 0) with
  | false =>
    refine ⟨w, by omega, ?_⟩
    unfold tickR tickO
    rw [if_pos hv, if_pos hv]
    exact ⟨rfl, rfl⟩
  | true =>
    obtain ⟨n, hn⟩ : ∃ n : Nat, id = n := ⟨id.toNat, by omega⟩
    have hd := delay_v (c := inForce (fl c id l cm frm w 0)) (n := n) (by omega) (by rw [← hn]; exact hv)
    rw [← hn, ← hw] at hd
    refine ⟨w - 1, by omega, ?_⟩
    have hv' : ¬ isVoter (fl c id l cm frm w 0) = false := by rw [hv]; decide
    have hz : zeroM (w - 1) = w - 1 := if_neg (by omega)
    have hw2 : 0 < zeroM ((fl c id l cm frm w 0).wait - 1) := by show 0 < zeroM (w - 1); rw [hz]; omega
    have e : tw (fl c id l cm frm w 0) = fl c id l cm frm (zeroM (w - 1)) (farM (0 + 1)) := rfl
    unfold tickR tickO
    rw [if_neg hv', if_pos hw2, if_neg hv', if_pos hw2, e, hz]
    exact ⟨rfl, rfl⟩
end Go.Proofs
