import Derived.Test.YtbhfokahocgndaaGreatK3
import Derived.Test.YtbhfokahocgndaaGreatI1
/- Plain law: what a message makes of a replica, as the laws want it. -/
set_option linter.unusedSimpArgs false
set_option linter.unusedVariables false
namespace Go.Proofs
open Go.Pv
set_option maxRecDepth 100000

/-- A message that is sent. -/
structure Mx where
  kind : Int
  frm : Int
  to : Int
  term : Int
  index : Int
  logT : Int
  commit : Int
  round : Int
  yes : Bool
  es : PV
  cf : Conf
  sn : PV
abbrev Mx.enc (x : Mx) : List PV := msgV x.kind x.frm x.to x.term x.index x.logT x.commit x.round x.yes x.es x.cf x.sn
abbrev ansX (r : Rft) (m : Mg) (k ix rd : Int) (y : Bool) : Mx := ⟨k, r.id, m.frm, r.hard.term, ix, 0, 0, rd, y, .nl, cz, .nl⟩
/-- Nothing is granted, nothing acknowledged. -/
def Mx.mute (x : Mx) : Prop := x.kind ≠ 4 ∧ x.kind ≠ 6
def Rows (P : Mx → Prop) (O : List (List PV)) : Prop := ∃ L : List Mx, O = L.map Mx.enc ∧ (∀ x ∈ L, P x) ∧ L.length ≤ 7
theorem rows_nil {P : Mx → Prop} : Rows P [] := ⟨[], rfl, fun x h => absurd h (List.not_mem_nil), Nat.zero_le _⟩
theorem rows_one {P : Mx → Prop} (x : Mx) (h : P x) : Rows P [x.enc] := ⟨[x], rfl, fun y hy => by rw [List.mem_singleton.1 hy]; exact h, Nat.succ_le_succ (Nat.zero_le _)⟩
theorem rows_of {α : Type} {P : Mx → Prop} {f : α → List PV} (l : List α) (hl : l.length ≤ 7) (h : ∀ a, ∃ x : Mx, f a = x.enc ∧ P x) : Rows P (l.map f) := by
  have key : ∃ L : List Mx, l.map f = L.map Mx.enc ∧ (∀ x ∈ L, P x) ∧ L.length = l.length := by
    clear hl
    induction l with
    | nil => exact ⟨[], rfl, fun x h => absurd h (List.not_mem_nil), rfl⟩
    | cons a l ih =>
      obtain ⟨x, e, hx⟩ := h a
      obtain ⟨L, eL, hL, hn⟩ := ih
      refine ⟨x :: L, by rw [List.map_cons, List.map_cons, e, eL], fun y hy => ?_, by rw [List.length_cons, List.length_cons, hn]⟩
      rcases List.mem_cons.1 hy with rfl | hy
      · exact hx
      · exact hL y hy
  obtain ⟨L, e, hL, hn⟩ := key
  exact ⟨L, e, hL, by omega⟩
theorem Rows.imp {P Q : Mx → Prop} {O : List (List PV)} (h : Rows P O) (i : ∀ x, P x → Q x) : Rows Q O := by
  obtain ⟨L, e, hL, hn⟩ := h
  exact ⟨L, e, fun x hx => i x (hL x hx), hn⟩
theorem feed_mute (r : Rft) (l : List Int) (hl : l.length ≤ 7) : Rows Mx.mute (l.map (feedRow r)) := by
  refine rows_of l hl fun i => ?_
  unfold feedRow
  split
  · exact ⟨⟨_, _, _, _, _, _, _, _, _, _, _, _⟩, rfl, by show (7 : Int) ≠ 4; decide, by show (7 : Int) ≠ 6; decide⟩
  · exact ⟨⟨_, _, _, _, _, _, _, _, _, _, _, _⟩, rfl, by show (5 : Int) ≠ 4; decide, by show (5 : Int) ≠ 6; decide⟩
theorem ask_mute (r : Rft) (k t : Int) (h1 : k ≠ 4) (h2 : k ≠ 6) (l : List Int) (hl : l.length ≤ 7) : Rows Mx.mute (l.map (askM r k t)) :=
  rows_of l hl fun _ => ⟨⟨_, _, _, _, _, _, _, _, _, _, _, _⟩, rfl, h1, h2⟩
theorem stand_mute (r : Rft) : Rows Mx.mute (standO r) := by
  unfold standO
  split
  · exact rows_nil
  · split
    · exact feed_mute _ _ (othN_len ..)
    · exact ask_mute _ _ _ (by decide) (by decide) _ (othN_len ..)
theorem k2_mute (x : Rft) (m : Mg) : Rows Mx.mute (k2O x m) := by
  unfold k2O
  split
  · split
    · split
      · exact stand_mute _
      · exact rows_nil
    · exact rows_nil
  · exact rows_nil
theorem k4_mute (x : Rft) (m : Mg) : Rows Mx.mute (k4O x m) := by
  unfold k4O
  split
  · split
    · exact feed_mute _ _ (othN_len ..)
    · exact rows_nil
  · exact rows_nil
theorem k8_mute (x : Rft) (m : Mg) : Rows Mx.mute (k8O x m) := by
  unfold k8O
  split
  · split
    · exact stand_mute _
    · exact rows_nil
  · exact rows_nil
theorem asked_mute (x : Rft) (m : Mg) : Rows Mx.mute (askedO x m) := by
  unfold askedO
  split
  · exact rows_one ⟨_, _, _, _, _, _, _, _, _, _, _, _⟩ ⟨by show (2 : Int) ≠ 4; decide, by show (2 : Int) ≠ 6; decide⟩
  · exact rows_one ⟨_, _, _, _, _, _, _, _, _, _, _, _⟩ ⟨by show (2 : Int) ≠ 4; decide, by show (2 : Int) ≠ 6; decide⟩
/-- What is granted, what is acknowledged. -/
structure Tak (r : Rft) (m : Mg) (R : Rft) (x : Mx) : Prop where
  vot : x.kind = 4 → x.yes = true → m.kind = 3 ∧ R.hard.vote = m.frm ∧ R.hard.term = m.term ∧ x.to = m.frm ∧ x.term = R.hard.term ∧ newer r.hard m.index m.logTerm = true ∧ R.role = 0
  gro : x.kind = 6 → x.yes = true → x.index ≤ lastI R.hard ∧ R.lead = m.frm ∧ R.role = 0 ∧ R.quiet = 0 ∧ x.round = m.round ∧
    (m.kind = 5 → ∀ k (h : k < m.entries.length), R.hard.base < m.index + 1 + k → ∃ e, entAt R.hard (m.index + 1 + k) = some e ∧ e.term = (m.entries[k]'h).term)
theorem Mx.mute.tak {x : Mx} (h : x.mute) (r : Rft) (m : Mg) (R : Rft) : Tak r m R x := ⟨fun e => absurd e h.1, fun e => absurd e h.2⟩
theorem no_tak {x : Mx} (h : x.yes = false) (r : Rft) (m : Mg) (R : Rft) : Tak r m R x := ⟨fun _ e => absurd (h.symm.trans e) (by decide), fun _ e => absurd (h.symm.trans e) (by decide)⟩
theorem elder_tak (r : Rft) (m : Mg) (R : Rft) : Rows (Tak r m R) (elderO r m) := by
  unfold elderO
  split
  · exact rows_one ⟨_, _, _, _, _, _, _, _, _, _, _, _⟩ (no_tak rfl r m R)
  · split
    · exact rows_one ⟨_, _, _, _, _, _, _, _, _, _, _, _⟩ (no_tak rfl r m R)
    · exact rows_nil
/-- How the log, the base stand, if a message was taken. -/
structure Got (r : Rft) (m : Mg) (R : Rft) : Prop where
  log : R.hard.log.length ≤ 4294000
  base : 0 ≤ R.hard.base ∧ R.hard.base ≤ 1099511627776
  led : r.role = 3 → r.hard.vote = r.id → m.term ≤ r.hard.term → R.hard = r.hard ∧ R.role = 3
theorem fall_base (r : Rft) (t l : Int) : (fallR r t l).hard.base = r.hard.base := by unfold fallR; split <;> rfl
theorem fall_baseT (r : Rft) (t l : Int) : (fallR r t l).hard.baseTerm = r.hard.baseTerm := by unfold fallR; split <;> rfl
theorem newer_fall (r : Rft) (t l : Int) (i k : Int) : newer (fallR r t l).hard i k = newer r.hard i k := by
  unfold newer lastT lastI
  rw [fall_log, fall_base, fall_baseT]
theorem stand_got (r : Rft) : (standR r).hard.base = r.hard.base ∧ (standR r).hard.log.length ≤ r.hard.log.length + 1 := by
  unfold standR
  split
  · exact ⟨fall_base .., by rw [fall_log]; omega⟩
  · split
    · exact ⟨rfl, by rw [lead_log, List.length_append]; exact Nat.le_refl _⟩
    · exact ⟨rfl, by show r.hard.log.length ≤ _; omega⟩
theorem k2_got (x : Rft) (m : Mg) : (k2R x m).hard.base = x.hard.base ∧ (k2R x m).hard.log.length ≤ x.hard.log.length + 1 := by
  unfold k2R
  split
  · split
    · split
      · exact stand_got (vtR x m)
      · exact ⟨rfl, by show x.hard.log.length ≤ _; omega⟩
    · exact ⟨rfl, by omega⟩
  · exact ⟨rfl, by omega⟩
theorem k4_got (x : Rft) (m : Mg) : (k4R x m).hard.base = x.hard.base ∧ (k4R x m).hard.log.length ≤ x.hard.log.length + 1 := by
  unfold k4R
  split
  · split
    · exact ⟨rfl, by rw [lead_log, List.length_append]; exact Nat.le_refl _⟩
    · exact ⟨rfl, by show x.hard.log.length ≤ _; omega⟩
  · exact ⟨rfl, by omega⟩
theorem k8_got (x : Rft) (m : Mg) : (k8R x m).hard.base = x.hard.base ∧ (k8R x m).hard.log.length ≤ x.hard.log.length + 1 := by
  unfold k8R
  split
  · split
    · exact stand_got x
    · exact ⟨rfl, by omega⟩
  · exact ⟨rfl, by omega⟩
theorem k3_got (x : Rft) (m : Mg) : (k3R x m).hard.base = x.hard.base ∧ (k3R x m).hard.log.length ≤ x.hard.log.length := by
  unfold k3R
  split
  · rw [fall_base, fall_log]; exact ⟨rfl, Nat.le_refl _⟩
  · exact ⟨rfl, Nat.le_refl _⟩
theorem k3_tak (r x : Rft) (m : Mg) (hk : m.kind = 3) (hn : newer x.hard m.index m.logTerm = newer r.hard m.index m.logTerm) : Rows (Tak r m (k3R x m)) (k3O x m) := by
  unfold k3R k3O
  split
  · rename_i hv
    have e := fall_same (vdR x m) (-1)
    have ht : (vdR x m).hard.term = x.hard.term := rfl
    rw [ht] at e
    rw [e]
    refine rows_one ⟨_, _, _, _, _, _, _, _, _, _, _, _⟩ ⟨fun _ _ => ?_, fun h => ?_⟩
    · unfold voted at hv
      simp only [Bool.and_eq_true, beq_iff_eq] at hv
      rw [e]
      exact ⟨hk, rfl, hv.1.symm, rfl, rfl, hn ▸ hv.2.2, rfl⟩
    · exact absurd h (by show ¬ (4 : Int) = 6; decide)
  · exact rows_one ⟨_, _, _, _, _, _, _, _, _, _, _, _⟩ (no_tak rfl r m x)
theorem k3_led (x : Rft) (m : Mg) (h3 : x.hard.vote = x.id) (hne : m.frm ≠ x.id) (hid : 0 ≤ x.id) : k3R x m = x := by
  unfold k3R
  rw [if_neg]
  intro h
  unfold voted at h
  simp only [Bool.and_eq_true, Bool.or_eq_true, beq_iff_eq] at h
  omega
/-- Entries that were put stand in the log. -/
theorem grow_has {h : Hrd} {c : Int} {m : Mg} (hl : h.log.length ≤ 4294000) (e : growE h c m = 0) (hy : (growO h c m).yes = true) : (growO h c m).i ≤ lastI (growO h c m).h ∧ ∀ k (hk : k < m.entries.length), h.base < m.index + 1 + k → ∃ x, entAt (growO h c m).h (m.index + 1 + k) = some x ∧ x.term = (m.entries[k]'hk).term := by
  obtain ⟨h1, h2⟩ := growE_hard e
  cases hf : fits h (gP h m) (gT h m) with
  | false => rw [(growE_no h1 h2 hf).2] at hy; cases hy
  | true =>
    obtain ⟨n, k⟩ := growFit (by omega) e hf
    obtain ⟨k1, k2⟩ := k.le hl
    rw [(k.last hl).1, k.out]
    refine ⟨k2, fun j hj hb => ?_⟩
    have hat := k.ko.at'
    have hle := k.ko.le
    have hd : (h.base - m.index).toNat + (j - (h.base - m.index).toNat) = j := by omega
    have hgl : j - (h.base - m.index).toNat < (gL h m).length := by unfold gL; rw [List.length_drop]; omega
    have hge : (gL h m)[j - (h.base - m.index).toNat]'hgl = m.entries[j]'hj := by
      refine Option.some.inj ?_
      rw [← List.getElem?_eq_getElem hgl, ← List.getElem?_eq_getElem hj]
      unfold gL
      rw [List.getElem?_drop, hd]
    have hgP : gP h m = m.index + (h.base - m.index).toNat := by unfold gP; split <;> omega
    obtain ⟨a, ha, hat'⟩ := putM_term (h.log.drop n) (gL h m) _ hgl
    refine ⟨a, ?_, by rw [hat', hge]⟩
    rw [entAt_nat (m := n + (j - (h.base - m.index).toNat)) (by show m.index + 1 + (j : Int) = h.base + 1 + _; omega)]
    show (putG h.log n (gL h m))[n + (j - (h.base - m.index).toNat)]? = some a
    rw [← ha, ← putG_drop h.log (gL h m) hle, List.getElem?_drop]
theorem fol_hard (r : Rft) (m : Mg) : (folR r m).hard = r.hard := fall_same r m.frm
theorem app_tak (r x : Rft) (m : Mg) (hl : x.hard.log.length ≤ 4294000) (he : appE x m = 0) : Rows (Tak r m (appR x m)) (appO x m) := by
  unfold appE at he
  unfold appR appO
  split
  · exact rows_nil
  · rename_i hr
    rw [if_neg hr] at he
    rw [if_pos he, if_pos he]
    have hh := fol_hard (setH x (growO x.hard x.commit m).h (growO x.hard x.commit m).c) m
    refine rows_one ⟨_, _, _, _, _, _, _, _, _, _, _, _⟩ ⟨fun h => absurd h (by show ¬ (6 : Int) = 4; decide), fun _ hy => ?_⟩
    obtain ⟨g1, g2⟩ := grow_has hl he hy
    rw [hh]
    exact ⟨g1, rfl, rfl, rfl, rfl, fun _ k hk hb => g2 k hk (by rw [← grow_base he]; exact hb)⟩
theorem app_got (x : Rft) (m : Mg) (hl : x.hard.log.length ≤ 4293000) : (appR x m).hard.base = x.hard.base ∧ (appR x m).hard.log.length ≤ x.hard.log.length + 8 := by
  unfold appR
  split
  · exact ⟨rfl, by omega⟩
  · split
    · rename_i he
      rw [fol_hard]
      exact ⟨grow_base he, grow_len (by omega) he⟩
    · exact ⟨rfl, by omega⟩
theorem ins_len (h : Hrd) (i t : Int) (c : Conf) (s : List Int) : (instH h i t c s).log.length ≤ h.log.length := by
  unfold instH
  show (if fits h i t = true then h.log.drop (i - h.base).toNat else []).length ≤ _
  split
  · rw [List.length_drop]; omega
  · exact Nat.zero_le _
theorem ins_tak (r x : Rft) (m : Mg) (hk : m.kind = 7) (hm : x.hard.log.length ≤ 4294000) (hi : 0 ≤ m.index ∧ m.index ≤ 1099511627776) (hc : x.commit ≤ lastI x.hard) (he : insE x m = 0) : Rows (Tak r m (insR x m)) (insO x m) := by
  have hk5 : ¬ m.kind = 5 := by omega
  unfold insE at he
  unfold insR insO
  split
  · exact rows_nil
  · rename_i hr
    rw [if_neg hr] at he
    split
    · rename_i hlt
      rw [if_pos hlt] at he
      rw [if_pos he, if_pos he]
      have hh := fol_hard (setH x (insHH x m) m.index) m
      refine rows_one ⟨_, _, _, _, _, _, _, _, _, _, _, _⟩ ⟨fun h => absurd h (by show ¬ (6 : Int) = 4; decide), fun _ _ => ?_⟩
      rw [hh]
      refine ⟨?_, rfl, rfl, rfl, rfl, fun h => absurd h hk5⟩
      show m.index ≤ lastI (insHH x m)
      have hl : (insHH x m).log.length ≤ x.hard.log.length := ins_len x.hard m.index m.logTerm m.conf m.snap
      rw [lastI_sum (h := insHH x m) (by show 0 ≤ m.index; omega) (by show m.index + (((insHH x m).log.length : Nat) : Int) < _; omega)]
      show m.index ≤ m.index + _
      omega
    · have hh := fol_hard x m
      refine rows_one ⟨_, _, _, _, _, _, _, _, _, _, _, _⟩ ⟨fun h => absurd h (by show ¬ (6 : Int) = 4; decide), fun _ _ => ?_⟩
      rw [hh]
      exact ⟨hc, rfl, rfl, rfl, rfl, fun h => absurd h hk5⟩
theorem ins_got (x : Rft) (m : Mg) (hi : 0 ≤ m.index ∧ m.index ≤ 1099511627776) (hb : 0 ≤ x.hard.base ∧ x.hard.base ≤ 1099511627776) : (0 ≤ (insR x m).hard.base ∧ (insR x m).hard.base ≤ 1099511627776) ∧ (insR x m).hard.log.length ≤ x.hard.log.length := by
  unfold insR
  split
  · exact ⟨hb, Nat.le_refl _⟩
  · split
    · split
      · rw [fol_hard]; exact ⟨hi, ins_len ..⟩
      · exact ⟨hb, Nat.le_refl _⟩
    · rw [fol_hard]; exact ⟨hb, Nat.le_refl _⟩
theorem lrn_got (x : Rft) (m : Mg) : (lrnAll x m).hard = x.hard ∧ (lrnAll x m).role = x.role := by
  unfold lrnAll; split <;> exact ⟨rfl, rfl⟩
end Go.Proofs

/- Plain law: whatever message is taken: what becomes of a right replica. -/
namespace Go.Proofs
open Go.Pv
set_option maxRecDepth 100000

theorem mkM_eq {m : Mg} {k : Int} (h : m.kind = k) : mkM m k = m := by cases m; cases h; rfl
theorem mkY_eq {m : Mg} {k : Int} {y : Bool} (h : m.kind = k) (hy : m.yes = y) : mkY m k y = m := by cases m; cases h; cases hy; rfl
structure RightM (r : Rft) (m : Mg) : Prop where
  frm : 0 ≤ m.frm ∧ m.frm < 7
  ne : m.frm ≠ r.id
  to : m.to = r.id
  kind : 1 ≤ m.kind ∧ m.kind ≤ 8
  term : 0 ≤ m.term ∧ m.term ≤ 1099511627776
  index : 0 ≤ m.index ∧ m.index ≤ 1099511627776
theorem rightM_of {r : Rft} {m : Mg} (h : rightM r m = true) : RightM r m := by
  unfold rightM at h
  simp only [Bool.and_eq_true, decide_eq_true_eq] at h
  obtain ⟨h1, h2, h3, h4, h5, ⟨h6, _⟩, h7, _⟩ := h
  have h1 := inR_of h1
  exact ⟨by omega, h2, h3, ⟨h4, h5⟩, inR_of h6, inR_of h7⟩
theorem lastI_fall (r : Rft) (t l : Int) : lastI (fallR r t l).hard = lastI r.hard := by
  unfold lastI
  rw [fall_log, fall_base]
theorem got_of {r : Rft} {m : Mg} {R : Rft} (hl : r.hard.log.length ≤ 1000) (hb : 0 ≤ r.hard.base ∧ r.hard.base ≤ 1099511627776) (h : R.hard.base = r.hard.base ∧ R.hard.log.length ≤ r.hard.log.length + 8)
    (led : r.role = 3 → r.hard.vote = r.id → m.term ≤ r.hard.term → R.hard = r.hard ∧ R.role = 3) : Got r m R :=
  ⟨by omega, by rw [h.1]; exact hb, led⟩
/-- What is taken. -/
structure Taken (r : Rft) (m : Mg) (R : Rft) (O : List (List PV)) (E : Int) : Prop where
  run : CtrE Tryz.prog 77 [.pt 1000000 0, .ag m.enc] [(1000000, repI r [])] (obI r []) (iv E) [(1000000, repX R ([] ++ O))] obX
  got : E = 0 → Got r m R
  tak : E = 0 → Rows (Tak r m R) O
theorem taken (r : Rft) (m : Mg) (hr : rightB r = true) (hl : r.hard.log.length ≤ 1000) (hM : rightM r m = true) (hen : m.entries.length ≤ 1000) (hsn : m.snap.length ≤ 40000) :
    ∃ R O E, Taken r m R O E := by
  have hg := rgt_of hr
  have hf := hg.fit (by omega)
  have hM := rightM_of hM
  have hb := hf.base
  have hid := hf.id
  by_cases h1 : m.kind = 1
  · have k := c_take_1 r hf [] (by decide) m
    rw [mkM_eq h1] at k
    exact ⟨r, askedO r m, 0, k, fun _ => got_of hl hb ⟨rfl, by omega⟩ fun a _ _ => ⟨rfl, a⟩, fun _ => (asked_mute r m).imp fun x h => h.tak r m r⟩
  by_cases hlt : m.term < r.hard.term
  · exact ⟨r, elderO r m, 0, c_take_old r hf [] (by decide) m h1 hlt, fun _ => got_of hl hb ⟨rfl, by omega⟩ fun a _ _ => ⟨rfl, a⟩, fun _ => elder_tak r m r⟩
  by_cases heq : m.term = r.hard.term
  · rcases (by have := hM.kind; omega : m.kind = 2 ∨ m.kind = 3 ∨ m.kind = 4 ∨ m.kind = 5 ∨ m.kind = 6 ∨ m.kind = 7 ∨ m.kind = 8) with h | h | h | h | h | h | h
    · cases hy : m.yes with
      | false =>
        have k := c_take_2n r hf [] (by decide) m hM.frm hM.term.2 heq
        rw [mkY_eq h hy] at k
        exact ⟨r, [], 0, k, fun _ => got_of hl hb ⟨rfl, by omega⟩ fun a _ _ => ⟨rfl, a⟩, fun _ => rows_nil⟩
      | true =>
        have k := c_take_2z r hf [] (by decide) m hM.frm hM.term.2 heq
        rw [mkY_eq h hy] at k
        refine ⟨k2R r m, k2O r m, 0, k, fun _ => got_of hl hb ⟨(k2_got r m).1, by have := (k2_got r m).2; omega⟩ fun a _ _ => ?_, fun _ => (k2_mute r m).imp fun x h => h.tak r m _⟩
        have e : k2R r m = r := by unfold k2R; rw [if_neg (by omega)]
        rw [e]; exact ⟨rfl, a⟩
    · have k := c_take_3 r hf [] (by decide) m hM.frm hM.term.2 heq
      rw [mkM_eq h] at k
      refine ⟨k3R r m, k3O r m, 0, k, fun _ => got_of hl hb ⟨(k3_got r m).1, by have := (k3_got r m).2; omega⟩ fun a b _ => ?_, fun _ => k3_tak r r m h rfl⟩
      rw [k3_led r m b hM.ne hid.1]; exact ⟨rfl, a⟩
    · cases hy : m.yes with
      | false =>
        have k := c_take_4n r hf [] (by decide) m hM.frm hM.term.2 heq
        rw [mkY_eq h hy] at k
        exact ⟨r, [], 0, k, fun _ => got_of hl hb ⟨rfl, by omega⟩ fun a _ _ => ⟨rfl, a⟩, fun _ => rows_nil⟩
      | true =>
        have k := c_take_4y r hf [] (by decide) m hM.frm hM.term.2 heq
        rw [mkY_eq h hy] at k
        refine ⟨k4R r m, k4O r m, 0, k, fun _ => got_of hl hb ⟨(k4_got r m).1, by have := (k4_got r m).2; omega⟩ fun a _ _ => ?_, fun _ => (k4_mute r m).imp fun x h => h.tak r m _⟩
        have e : k4R r m = r := by unfold k4R; rw [if_neg (by omega)]
        rw [e]; exact ⟨rfl, a⟩
    · have k := c_take_5 r hf [] (by decide) m hM.frm hM.term.2 heq (by omega) (by
        rw [mkM_eq h]; intro e; have := grow_len (m := m) (by omega) e; exact smallM (by omega))
      rw [mkM_eq h] at k
      refine ⟨appR r m, appO r m, appE r m, k, fun _ => got_of hl hb (app_got r m (by omega)) fun a _ _ => ?_, fun e => app_tak r r m (by omega) e⟩
      have e : appR r m = r := by unfold appR; rw [if_pos a]
      rw [e]; exact ⟨rfl, a⟩
    · have k := c_take_6 r hf [] (by decide) m hM.frm hM.term.2 heq hM.index hg.mtch
      rw [mkM_eq h] at k
      obtain ⟨e1, e2⟩ := lrn_got r m
      refine ⟨lrnAll r m, [], 0, k, fun _ => got_of hl hb ⟨by rw [e1], by rw [e1]; omega⟩ fun a _ _ => ⟨e1, by rw [e2]; exact a⟩, fun _ => rows_nil⟩
    · have k := c_take_7 r hf [] (by decide) m hM.frm hM.term.2 heq (by omega) hM.index (by
        have := ins_len r.hard (mkM m 7).index (mkM m 7).logTerm (mkM m 7).conf (mkM m 7).snap; exact smallM (Nat.le_trans this (by omega)))
      rw [mkM_eq h] at k
      have hi := ins_got r m hM.index hb
      refine ⟨insR r m, insO r m, insE r m, k, fun _ => ⟨by omega, hi.1, fun a _ _ => ?_⟩, fun e => ins_tak r r m h (by omega) hM.index hg.com.2 e⟩
      have e : insR r m = r := by unfold insR; rw [if_pos a]
      rw [e]; exact ⟨rfl, a⟩
    · have k := c_take_8 r hf [] (by decide) m hM.frm hM.term.2 heq
      rw [mkM_eq h] at k
      refine ⟨k8R r m, k8O r m, 0, k, fun _ => got_of hl hb ⟨(k8_got r m).1, by have := (k8_got r m).2; omega⟩ fun a _ _ => ?_, fun _ => (k8_mute r m).imp fun x h => h.tak r m _⟩
      have e : k8R r m = r := by
        unfold k8R
        have := hg.own a
        have hne := hM.ne
        split
        · rw [if_neg (by omega)]
        · rfl
      rw [e]; exact ⟨rfl, a⟩
  · have hgt : r.hard.term < m.term := by omega
    have hno : ∀ {R : Rft}, r.role = 3 → r.hard.vote = r.id → m.term ≤ r.hard.term → R.hard = r.hard ∧ R.role = 3 := fun _ _ c => by omega
    have hxb := fall_base r m.term (-1)
    have hxl : (fallR r m.term (-1)).hard.log.length = r.hard.log.length := by rw [fall_log]
    rcases (by have := hM.kind; omega : m.kind = 2 ∨ m.kind = 3 ∨ m.kind = 4 ∨ m.kind = 5 ∨ m.kind = 6 ∨ m.kind = 7 ∨ m.kind = 8) with h | h | h | h | h | h | h
    · cases hy : m.yes with
      | false =>
        have k := c_take_2nF r hf [] (by decide) m hM.frm hM.term.2 hgt
        rw [mkY_eq h hy] at k
        exact ⟨fallR r m.term (-1), [], 0, k, fun _ => got_of hl hb ⟨hxb, by omega⟩ hno, fun _ => rows_nil⟩
      | true =>
        have k := c_take_2y r hf [] (by decide) m hM.frm hM.term.2 hgt
        rw [mkY_eq h hy] at k
        exact ⟨k2R r m, k2O r m, 0, k, fun _ => got_of hl hb ⟨(k2_got r m).1, by have := (k2_got r m).2; omega⟩ hno, fun _ => (k2_mute r m).imp fun x h => h.tak r m _⟩
    · have k := c_take_3F r hf [] (by decide) m hM.frm hM.term.2 hgt
      rw [mkM_eq h] at k
      have hn := newer_fall r m.term (-1) m.index m.logTerm
      generalize fallR r m.term (-1) = x at *
      exact ⟨k3R x m, k3O x m, 0, k, fun _ => got_of hl hb ⟨by rw [(k3_got x m).1, hxb], by have := (k3_got x m).2; omega⟩ hno, fun _ => k3_tak r x m h hn⟩
    · cases hy : m.yes with
      | false =>
        have k := c_take_4nF r hf [] (by decide) m hM.frm hM.term.2 hgt
        rw [mkY_eq h hy] at k
        exact ⟨fallR r m.term (-1), [], 0, k, fun _ => got_of hl hb ⟨hxb, by omega⟩ hno, fun _ => rows_nil⟩
      | true =>
        have k := c_take_4yF r hf [] (by decide) m hM.frm hM.term.2 hgt
        rw [mkY_eq h hy] at k
        generalize fallR r m.term (-1) = x at *
        exact ⟨k4R x m, k4O x m, 0, k, fun _ => got_of hl hb ⟨by rw [(k4_got x m).1, hxb], by have := (k4_got x m).2; omega⟩ hno, fun _ => (k4_mute x m).imp fun y h => h.tak r m _⟩
    · have k := c_take_5F r hf [] (by decide) m hM.frm hM.term.2 hgt (by omega) (by
        rw [mkM_eq h]; intro e; have := grow_len (m := m) (by omega) e; exact smallM (by omega))
      rw [mkM_eq h] at k
      generalize fallR r m.term (-1) = x at *
      have ha := app_got x m (by omega)
      exact ⟨appR x m, appO x m, appE x m, k, fun _ => got_of hl hb ⟨by rw [ha.1, hxb], by omega⟩ hno, fun e => app_tak r x m (by omega) e⟩
    · have k := c_take_6F r hf [] (by decide) m hM.frm hM.term.2 hgt hM.index (fun i hi => by
        rw [lastI_fall]
        have h0 : (fallR r m.term (-1)).mtch.at i = 0 := by
          rcases (by omega : i = 0 ∨ i = 1 ∨ i = 2 ∨ i = 3 ∨ i = 4 ∨ i = 5 ∨ i = 6) with rfl | rfl | rfl | rfl | rfl | rfl | rfl <;> rfl
        have := hg.com
        rw [h0]; omega)
      rw [mkM_eq h] at k
      generalize fallR r m.term (-1) = x at *
      obtain ⟨e1, e2⟩ := lrn_got x m
      exact ⟨lrnAll x m, [], 0, k, fun _ => got_of hl hb ⟨by rw [e1, hxb], by rw [e1]; omega⟩ hno, fun _ => rows_nil⟩
    · have k := c_take_7F r hf [] (by decide) m hM.frm hM.term.2 hgt (by omega) hM.index (by
        have := ins_len (fallR r m.term (-1)).hard (mkM m 7).index (mkM m 7).logTerm (mkM m 7).conf (mkM m 7).snap; exact smallM (Nat.le_trans this (by omega)))
      rw [mkM_eq h] at k
      have hc : (fallR r m.term (-1)).commit ≤ lastI (fallR r m.term (-1)).hard := by rw [lastI_fall]; exact hg.com.2
      generalize fallR r m.term (-1) = x at *
      have hi := ins_got x m hM.index (by rw [hxb]; exact hb)
      exact ⟨insR x m, insO x m, insE x m, k, fun _ => ⟨by omega, hi.1, hno⟩, fun e => ins_tak r x m h (by omega) hM.index hc e⟩
    · have k := c_take_8F r hf [] (by decide) m hM.frm hM.term.2 hgt
      rw [mkM_eq h] at k
      generalize fallR r m.term (-1) = x at *
      exact ⟨k8R x m, k8O x m, 0, k, fun _ => got_of hl hb ⟨by rw [(k8_got x m).1, hxb], by have := (k8_got x m).2; omega⟩ hno, fun _ => (k8_mute x m).imp fun y h => h.tak r m _⟩
end Go.Proofs
