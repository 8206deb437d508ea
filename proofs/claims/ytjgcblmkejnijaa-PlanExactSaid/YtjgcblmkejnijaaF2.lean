/- Contracts of functions: what the planner wants next. -/
import Derived.Test.YtjgcblmkejnijaaF1
import Derived.Test.YtjgcblmkejnijaaC1
set_option linter.unusedSimpArgs false
set_option linter.unusedVariables false
namespace Go.Proofs
open Go.Pv
set_option maxRecDepth 100000

noncomputable instance (a b c d : Int) : Decidable (fullB a b c d) := by unfold fullB; infer_instance
noncomputable def okS (r : Conf × Int) : Option Conf := if r.2 = 0 then some r.1 else none
noncomputable def tooS (c : Conf) (voters should sil : Int) : Option Conf := if count voters ≤ should then none else okS (removeR c (lowB (band voters sil)))
noncomputable def lrnS (c : Conf) (p : List Pl) (learn voters should spare sil : Int) (w : Bool) : Option Conf := if fullB learn voters should sil then none else okS (learnR c (bestP p (lrnBits c spare sil)) w)
noncomputable def nextS (c : Conf) (full wit : Int) (p : List Pl) (spare spareW sil cau : Int) : Option Conf :=
  (okS (removeR c (lowB (band (bor c.learn c.lwit) sil)))).or <| (okS (promoteR c (lowB (readyB c full wit cau)))).or <| (tooS c c.full full sil).or <| (tooS c c.wit wit sil).or <| (lrnS c p c.learn c.full full spare sil false).or (lrnS c p c.lwit c.wit wit spareW sil true)
noncomputable def lineS (c : Conf) (full wit : Int) (p : List Pl) (spare spareW sil cau : Int) : Nat → Option Conf
  | 0 => okS (removeR c (lowB (band (bor c.learn c.lwit) sil)))
  | 1 => okS (promoteR c (lowB (readyB c full wit cau)))
  | 2 => tooS c c.full full sil
  | 3 => tooS c c.wit wit sil
  | 4 => lrnS c p c.learn c.full full spare sil false
  | 5 => lrnS c p c.lwit c.wit wit spareW sil true
  | _ => none
theorem next_at {c : Conf} {full wit : Int} {p : List Pl} {spare spareW sil cau : Int} {k : Nat} (hk : k < 6) (hq : ∀ j, j < k → lineS c full wit p spare spareW sil cau j = none) {d : Conf} (h : lineS c full wit p spare spareW sil cau k = some d) : nextS c full wit p spare spareW sil cau = some d := by
  have e : nextS c full wit p spare spareW sil cau = (lineS c full wit p spare spareW sil cau 0).or ((lineS c full wit p spare spareW sil cau 1).or ((lineS c full wit p spare spareW sil cau 2).or ((lineS c full wit p spare spareW sil cau 3).or ((lineS c full wit p spare spareW sil cau 4).or (lineS c full wit p spare spareW sil cau 5))))) := rfl
  rw [e]
  rcases (by omega : k = 0 ∨ k = 1 ∨ k = 2 ∨ k = 3 ∨ k = 4 ∨ k = 5) with rfl | rfl | rfl | rfl | rfl | rfl
  · rw [h]; rfl
  · rw [hq 0 (by decide), h]; rfl
  · rw [hq 0 (by decide), hq 1 (by decide), h]; rfl
  · rw [hq 0 (by decide), hq 1 (by decide), hq 2 (by decide), h]; rfl
  · rw [hq 0 (by decide), hq 1 (by decide), hq 2 (by decide), hq 3 (by decide), h]; rfl
  · rw [hq 0 (by decide), hq 1 (by decide), hq 2 (by decide), hq 3 (by decide), hq 4 (by decide), h]; rfl
theorem next_no {c : Conf} {full wit : Int} {p : List Pl} {spare spareW sil cau : Int} (hq : ∀ j, j < 6 → lineS c full wit p spare spareW sil cau j = none) : nextS c full wit p spare spareW sil cau = none := by
  have e : nextS c full wit p spare spareW sil cau = (lineS c full wit p spare spareW sil cau 0).or ((lineS c full wit p spare spareW sil cau 1).or ((lineS c full wit p spare spareW sil cau 2).or ((lineS c full wit p spare spareW sil cau 3).or ((lineS c full wit p spare spareW sil cau 4).or (lineS c full wit p spare spareW sil cau 5))))) := rfl
  rw [e, hq 0 (by decide), hq 1 (by decide), hq 2 (by decide), hq 3 (by decide), hq 4 (by decide), hq 5 (by decide)]; rfl
/-- A line's answer. -/
abbrev ansV (t : Bool) (w : Conf) (b : Bool) : PV := .tu [.ag [bv t, iv w.full, iv w.wit, iv w.learn, iv w.lwit], bv b]
abbrev stepO (o : Option Conf) : List PV := match o with
  | some d => stepV d
  | none => stepZ
def AnsOf (o : Option Conf) (t : Bool) (w : Conf) (b : Bool) : Prop := if b = true then t = true ∧ o = some w else o = none
theorem ans_ok (r : Conf × Int) : ∃ t w b, AnsOf (okS r) t w b ∧ wantV r = ansV t w b := by
  refine ⟨true, r.1, r.2 == 0, ?_, rfl⟩
  unfold AnsOf okS
  by_cases h : r.2 = 0
  · rw [if_pos h, h]; exact ⟨rfl, rfl⟩
  · rw [if_neg h, show (r.2 == 0) = false by simpa using h]; rfl
theorem c_line0 (c : Conf) (full wit : Int) (p : List Pl) (sil cau : Int) : Ctr Try.prog 80 [.ep (plnr c full wit p sil cau), .ep c.enc] (wantV (removeR c (lowB (band (bor c.learn c.lwit) sil)))) [] := by
  refine spec_of_body mixed Try.func80 rfl (by kernel_rfl) (by kernel_rfl) ?_; conv => whnf
  ((try ((refine Exists.intro none ?_); (conv => whnf))); first | ((with_reducible refine call_by (c_gone c full wit p sil cau (band (bor c.learn c.lwit) sil)) ?_); conv => whnf))
  exact exit_plain rfl rfl
theorem c_line2 (c : Conf) (full wit : Int) (p : List Pl) (sil cau : Int) : Ctr Try.prog 83 [.ep (plnr c full wit p sil cau), .ep c.enc, .ep [iv full]] (tooP c c.full full sil) [] := by
  have k := c_tooMany c full wit p sil cau c.full full
  unfold tooP at *
  split at k
  · rename_i h
    rw [if_pos h]
    refine spec_of_body mixed Try.func83 rfl (by kernel_rfl) (by kernel_rfl) ?_; conv => whnf
    ((try ((refine Exists.intro none ?_); (conv => whnf))); first | ((with_reducible refine call_by (k) ?_); conv => whnf))
    exact exit_plain rfl rfl
  · rename_i h
    rw [if_neg h]
    refine spec_of_body mixed Try.func83 rfl (by kernel_rfl) (by kernel_rfl) ?_; conv => whnf
    ((try ((refine Exists.intro none ?_); (conv => whnf))); first | ((with_reducible refine call_by (k) ?_); conv => whnf))
    exact exit_plain rfl rfl
theorem c_line3 (c : Conf) (full wit : Int) (p : List Pl) (sil cau : Int) : Ctr Try.prog 85 [.ep (plnr c full wit p sil cau), .ep c.enc, .ep [iv wit]] (tooP c c.wit wit sil) [] := by
  have k := c_tooMany c full wit p sil cau c.wit wit
  unfold tooP at *
  split at k
  · rename_i h
    rw [if_pos h]
    refine spec_of_body mixed Try.func85 rfl (by kernel_rfl) (by kernel_rfl) ?_; conv => whnf
    ((try ((refine Exists.intro none ?_); (conv => whnf))); first | ((with_reducible refine call_by (k) ?_); conv => whnf))
    exact exit_plain rfl rfl
  · rename_i h
    rw [if_neg h]
    refine spec_of_body mixed Try.func85 rfl (by kernel_rfl) (by kernel_rfl) ?_; conv => whnf
    ((try ((refine Exists.intro none ?_); (conv => whnf))); first | ((with_reducible refine call_by (k) ?_); conv => whnf))
    exact exit_plain rfl rfl
noncomputable def lrnP (c : Conf) (p : List Pl) (learn voters should spare sil : Int) (w : Bool) : PV := if fullB learn voters should sil then .tu [.ag stepZ, bv false] else wantV (learnR c (bestP p (lrnBits c spare sil)) w)
theorem c_line4 (c : Conf) (full wit : Int) (p : List Pl) (hl : p.length ≤ 4294967) (hp : plsB p = true) (sil cau spare : Int) : Ctr Try.prog 86 [.ep (plnr c full wit p sil cau), .ep c.enc, .ep [iv full], .ep [iv spare]] (lrnP c p c.learn c.full full spare sil false) [] := by
  unfold lrnP
  split
  · rename_i h
    have k := c_learnedN c full wit p sil cau c.learn c.full full spare false h
    refine spec_of_body mixed Try.func86 rfl (by kernel_rfl) (by kernel_rfl) ?_; conv => whnf
    ((try ((refine Exists.intro none ?_); (conv => whnf))); first | ((with_reducible refine call_by (k) ?_); conv => whnf))
    exact exit_plain rfl rfl
  · rename_i h
    have k := c_learned c full wit p hl hp sil cau c.learn c.full full spare false h
    refine spec_of_body mixed Try.func86 rfl (by kernel_rfl) (by kernel_rfl) ?_; conv => whnf
    ((try ((refine Exists.intro none ?_); (conv => whnf))); first | ((with_reducible refine call_by (k) ?_); conv => whnf))
    exact exit_plain rfl rfl
theorem c_line5 (c : Conf) (full wit : Int) (p : List Pl) (hl : p.length ≤ 4294967) (hp : plsB p = true) (sil cau spare : Int) : Ctr Try.prog 88 [.ep (plnr c full wit p sil cau), .ep c.enc, .ep [iv wit], .ep [iv spare]] (lrnP c p c.lwit c.wit wit spare sil true) [] := by
  unfold lrnP
  split
  · rename_i h
    have k := c_learnedN c full wit p sil cau c.lwit c.wit wit spare true h
    refine spec_of_body mixed Try.func88 rfl (by kernel_rfl) (by kernel_rfl) ?_; conv => whnf
    ((try ((refine Exists.intro none ?_); (conv => whnf))); first | ((with_reducible refine call_by (k) ?_); conv => whnf))
    exact exit_plain rfl rfl
  · rename_i h
    have k := c_learned c full wit p hl hp sil cau c.lwit c.wit wit spare true h
    refine spec_of_body mixed Try.func88 rfl (by kernel_rfl) (by kernel_rfl) ?_; conv => whnf
    ((try ((refine Exists.intro none ?_); (conv => whnf))); first | ((with_reducible refine call_by (k) ?_); conv => whnf))
    exact exit_plain rfl rfl
theorem ans_too (c : Conf) (voters should sil : Int) : ∃ t w b, AnsOf (tooS c voters should sil) t w b ∧ tooP c voters should sil = ansV t w b := by
  unfold tooS tooP
  split
  · exact ⟨false, cz, false, rfl, rfl⟩
  · exact ans_ok _
theorem ans_lrn (c : Conf) (p : List Pl) (learn voters should spare sil : Int) (w : Bool) : ∃ t d b, AnsOf (lrnS c p learn voters should spare sil w) t d b ∧ lrnP c p learn voters should spare sil w = ansV t d b := by
  unfold lrnS lrnP
  split
  · exact ⟨false, cz, false, rfl, rfl⟩
  · exact ans_ok _

set_option maxHeartbeats 4000000 in
theorem c_pNext (c : Conf) (hc : confB c = true) (full wit : Int) (p : List Pl) (hl : p.length ≤ 4294967) (hp : plsB p = true) (spare spareW silent caught : Int) (hr : (1 ≤ full ∧ full ≤ 7) ∧ 0 ≤ wit ∧ wit ≤ 7) :
    Ctr Try.prog 40 [.ag c.enc, iv full, iv wit, .sl 4 (p.map Pl.enc), iv spare, iv spareW, iv silent, iv caught] (.tu [.ag (stepO (nextS c full wit p spare spareW (band silent 127) (band caught 127))), iv 0]) [] := by
  have kc := c_Check c
  rw [hc, if_pos rfl] at kc
  have kp := c_PCheck p hl
  rw [if_pos hp] at kp
  obtain ⟨t0, w0, b0, a0, e0⟩ := ans_ok (removeR c (lowB (band (bor c.learn c.lwit) (band silent 127))))
  have k0 := c_line0 c full wit p (band silent 127) (band caught 127)
  rw [e0] at k0
  obtain ⟨t1, w1, b1, a1, e1⟩ := ans_ok (promoteR c (lowB (readyB c full wit (band caught 127))))
  have k1 := c_promoted c full wit p (band silent 127) (band caught 127)
  rw [e1] at k1
  obtain ⟨t2, w2, b2, a2, e2⟩ := ans_too c c.full full (band silent 127)
  have k2 := c_line2 c full wit p (band silent 127) (band caught 127)
  rw [e2] at k2
  obtain ⟨t3, w3, b3, a3, e3⟩ := ans_too c c.wit wit (band silent 127)
  have k3 := c_line3 c full wit p (band silent 127) (band caught 127)
  rw [e3] at k3
  obtain ⟨t4, w4, b4, a4, e4⟩ := ans_lrn c p c.learn c.full full spare (band silent 127) false
  have k4 := c_line4 c full wit p hl hp (band silent 127) (band caught 127) spare
  rw [e4] at k4
  obtain ⟨t5, w5, b5, a5, e5⟩ := ans_lrn c p c.lwit c.wit wit spareW (band silent 127) true
  have k5 := c_line5 c full wit p hl hp (band silent 127) (band caught 127) spareW
  rw [e5] at k5
  clear e0 e1 e2 e3 e4 e5
  have a0 : AnsOf (lineS c full wit p spare spareW (band silent 127) (band caught 127) 0) t0 w0 b0 := a0
  have a1 : AnsOf (lineS c full wit p spare spareW (band silent 127) (band caught 127) 1) t1 w1 b1 := a1
  have a2 : AnsOf (lineS c full wit p spare spareW (band silent 127) (band caught 127) 2) t2 w2 b2 := a2
  have a3 : AnsOf (lineS c full wit p spare spareW (band silent 127) (band caught 127) 3) t3 w3 b3 := a3
  have a4 : AnsOf (lineS c full wit p spare spareW (band silent 127) (band caught 127) 4) t4 w4 b4 := a4
  have a5 : AnsOf (lineS c full wit p spare spareW (band silent 127) (band caught 127) 5) t5 w5 b5 := a5
  have hyes := fun k hk hq d h => next_at (c := c) (full := full) (wit := wit) (p := p) (spare := spare) (spareW := spareW) (sil := band silent 127) (cau := band caught 127) (k := k) hk hq (d := d) h
  have hno := fun hq => next_no (c := c) (full := full) (wit := wit) (p := p) (spare := spare) (spareW := spareW) (sil := band silent 127) (cau := band caught 127) hq
  generalize lineS c full wit p spare spareW (band silent 127) (band caught 127) = L at *
  generalize nextS c full wit p spare spareW (band silent 127) (band caught 127) = N at *
  refine spec_of_body mixed Try.func40 rfl (by kernel_rfl) (by kernel_rfl) ?_; conv => whnf
  ((try ((refine Exists.intro none ?_); (conv => whnf))); first | ((with_reducible refine call_by (kc) ?_); conv => whnf))
  ((try ((refine Exists.intro none ?_); (conv => whnf))); first | ((with_reducible refine call_by (kp) ?_); conv => whnf))
  ((first | (with_reducible refine split_dec (fun h => ?_) (fun h => ?_)) | (with_reducible refine split_beq (fun h => ?_) (fun h => ?_)) | (with_reducible refine split_bne (fun h => ?_) (fun h => ?_)) | (with_reducible refine split_not (fun h => ?_) (fun h => ?_)) | (with_reducible refine split_beqS (fun h => ?_) (fun h => ?_)) | (with_reducible refine split_intro (fun h => ?_) (fun h => ?_))) <;> conv => whnf)
  · exfalso; omega
  clear h
  ((first | (with_reducible refine split_dec (fun h => ?_) (fun h => ?_)) | (with_reducible refine split_beq (fun h => ?_) (fun h => ?_)) | (with_reducible refine split_bne (fun h => ?_) (fun h => ?_)) | (with_reducible refine split_not (fun h => ?_) (fun h => ?_)) | (with_reducible refine split_beqS (fun h => ?_) (fun h => ?_)) | (with_reducible refine split_intro (fun h => ?_) (fun h => ?_))) <;> conv => whnf)
  · exfalso; omega
  clear h
  ((first | (with_reducible refine split_dec (fun h => ?_) (fun h => ?_)) | (with_reducible refine split_beq (fun h => ?_) (fun h => ?_)) | (with_reducible refine split_bne (fun h => ?_) (fun h => ?_)) | (with_reducible refine split_not (fun h => ?_) (fun h => ?_)) | (with_reducible refine split_beqS (fun h => ?_) (fun h => ?_)) | (with_reducible refine split_intro (fun h => ?_) (fun h => ?_))) <;> conv => whnf)
  · exfalso; omega
  clear h
  ((first | (with_reducible refine split_dec (fun h => ?_) (fun h => ?_)) | (with_reducible refine split_beq (fun h => ?_) (fun h => ?_)) | (with_reducible refine split_bne (fun h => ?_) (fun h => ?_)) | (with_reducible refine split_not (fun h => ?_) (fun h => ?_)) | (with_reducible refine split_beqS (fun h => ?_) (fun h => ?_)) | (with_reducible refine split_intro (fun h => ?_) (fun h => ?_))) <;> conv => whnf)
  · exfalso; omega
  clear h
  refine tri_forB mixed (by kernel_rfl) (fun k : Nat => k ≤ 6 ∧ ∀ j : Nat, j < k → L j = none) (fun k => [(69, iv k)]) (fun _ => [(8, c.enc), (9, [iv full]), (10, [iv wit]), (12, [iv spare]), (13, [iv spareW]), (16, stepZ), (19, plnr c full wit p (band silent 127) (band caught 127))]) [] (fun k => 6 - k) 0 ⟨by decide, fun j h => absurd h (Nat.not_lt_zero _)⟩ ?_ ?_
  · conv => whnf
    (refine And.intro (And.intro (by with_unfolding_all rfl) (by intro q h; cases h)) ?_; refine And.intro ?_ (And.intro ?_ ?_) <;> (conv => whnf) <;> (repeat' (first | exact True.intro | (with_reducible exact rfl) | exact (rfl : List.replicate 0 PV.bad = []) | ((with_reducible refine And.intro ?_ ?_) <;> (first | (with_reducible exact wkV_same _ rfl) | exact wkV_pt rfl rfl | exact wkV_ow rfl rfl rfl | (refine wkV_ow rfl rfl ?_) | (refine wkV_sc (congrArg (Value.int .i64) ?_)) | (refine wkV_sc (congrArg Value.bool ?_)) | exact wkV_ls rfl | ((refine wkV_cl ?_); conv => whnf) | ((refine wkV_tu ?_); conv => whnf) | ((refine wkV_ag ?_); conv => whnf) | (conv => whnf))))))
    all_goals first | rfl | trace_state
  rintro k ⟨hk, hq⟩
  rcases (by omega : k = 0 ∨ k = 1 ∨ k = 2 ∨ k = 3 ∨ k = 4 ∨ k = 5 ∨ k = 6) with rfl | rfl | rfl | rfl | rfl | rfl | rfl
  · conv => whnf
    ((with_reducible refine And.intro (by with_unfolding_all decide) ?_); refine Exists.intro _ (And.intro (by with_unfolding_all rfl) ?_); conv => whnf)
    cases b0 with
    | true =>
      obtain ⟨rfl, ha⟩ := a0
      have hN := hyes 0 (by decide) hq _ ha
      ((try ((refine Exists.intro none ?_); (conv => whnf))); first | ((with_reducible refine call_by (k0) ?_); conv => whnf))
      exact exit_plain rfl (by rw [hN])
    | false =>
      have ha : L 0 = none := a0
      ((try ((refine Exists.intro none ?_); (conv => whnf))); first | ((with_reducible refine call_by (k0) ?_); conv => whnf))
      refine ⟨1, ⟨⟨by decide, fun j hj => ?_⟩, by decide⟩, ?_⟩
      · by_cases e : j = 0
        · subst e; exact ha
        · exact hq j (by omega)
      conv => whnf
      (refine And.intro (And.intro (by with_unfolding_all rfl) (by intro q h; cases h)) ?_; refine And.intro ?_ (And.intro ?_ ?_) <;> (conv => whnf) <;> (repeat' (first | exact True.intro | (with_reducible exact rfl) | exact (rfl : List.replicate 0 PV.bad = []) | ((with_reducible refine And.intro ?_ ?_) <;> (first | (with_reducible exact wkV_same _ rfl) | exact wkV_pt rfl rfl | exact wkV_ow rfl rfl rfl | (refine wkV_ow rfl rfl ?_) | (refine wkV_sc (congrArg (Value.int .i64) ?_)) | (refine wkV_sc (congrArg Value.bool ?_)) | exact wkV_ls rfl | ((refine wkV_cl ?_); conv => whnf) | ((refine wkV_tu ?_); conv => whnf) | ((refine wkV_ag ?_); conv => whnf) | (conv => whnf))))))
      all_goals first | rfl | trace_state
  · conv => whnf
    ((with_reducible refine And.intro (by with_unfolding_all decide) ?_); refine Exists.intro _ (And.intro (by with_unfolding_all rfl) ?_); conv => whnf)
    cases b1 with
    | true =>
      obtain ⟨rfl, ha⟩ := a1
      have hN := hyes 1 (by decide) hq _ ha
      ((try ((refine Exists.intro none ?_); (conv => whnf))); first | ((with_reducible refine call_by (k1) ?_); conv => whnf))
      exact exit_plain rfl (by rw [hN])
    | false =>
      have ha : L 1 = none := a1
      ((try ((refine Exists.intro none ?_); (conv => whnf))); first | ((with_reducible refine call_by (k1) ?_); conv => whnf))
      refine ⟨2, ⟨⟨by decide, fun j hj => ?_⟩, by decide⟩, ?_⟩
      · by_cases e : j = 1
        · subst e; exact ha
        · exact hq j (by omega)
      conv => whnf
      (refine And.intro (And.intro (by with_unfolding_all rfl) (by intro q h; cases h)) ?_; refine And.intro ?_ (And.intro ?_ ?_) <;> (conv => whnf) <;> (repeat' (first | exact True.intro | (with_reducible exact rfl) | exact (rfl : List.replicate 0 PV.bad = []) | ((with_reducible refine And.intro ?_ ?_) <;> (first | (with_reducible exact wkV_same _ rfl) | exact wkV_pt rfl rfl | exact wkV_ow rfl rfl rfl | (refine wkV_ow rfl rfl ?_) | (refine wkV_sc (congrArg (Value.int .i64) ?_)) | (refine wkV_sc (congrArg Value.bool ?_)) | exact wkV_ls rfl | ((refine wkV_cl ?_); conv => whnf) | ((refine wkV_tu ?_); conv => whnf) | ((refine wkV_ag ?_); conv => whnf) | (conv => whnf))))))
      all_goals first | rfl | trace_state
  · conv => whnf
    ((with_reducible refine And.intro (by with_unfolding_all decide) ?_); refine Exists.intro _ (And.intro (by with_unfolding_all rfl) ?_); conv => whnf)
    cases b2 with
    | true =>
      obtain ⟨rfl, ha⟩ := a2
      have hN := hyes 2 (by decide) hq _ ha
      ((try ((refine Exists.intro none ?_); (conv => whnf))); first | ((with_reducible refine call_by (k2) ?_); conv => whnf))
      exact exit_plain rfl (by rw [hN])
    | false =>
      have ha : L 2 = none := a2
      ((try ((refine Exists.intro none ?_); (conv => whnf))); first | ((with_reducible refine call_by (k2) ?_); conv => whnf))
      refine ⟨3, ⟨⟨by decide, fun j hj => ?_⟩, by decide⟩, ?_⟩
      · by_cases e : j = 2
        · subst e; exact ha
        · exact hq j (by omega)
      conv => whnf
      (refine And.intro (And.intro (by with_unfolding_all rfl) (by intro q h; cases h)) ?_; refine And.intro ?_ (And.intro ?_ ?_) <;> (conv => whnf) <;> (repeat' (first | exact True.intro | (with_reducible exact rfl) | exact (rfl : List.replicate 0 PV.bad = []) | ((with_reducible refine And.intro ?_ ?_) <;> (first | (with_reducible exact wkV_same _ rfl) | exact wkV_pt rfl rfl | exact wkV_ow rfl rfl rfl | (refine wkV_ow rfl rfl ?_) | (refine wkV_sc (congrArg (Value.int .i64) ?_)) | (refine wkV_sc (congrArg Value.bool ?_)) | exact wkV_ls rfl | ((refine wkV_cl ?_); conv => whnf) | ((refine wkV_tu ?_); conv => whnf) | ((refine wkV_ag ?_); conv => whnf) | (conv => whnf))))))
      all_goals first | rfl | trace_state
  · conv => whnf
    ((with_reducible refine And.intro (by with_unfolding_all decide) ?_); refine Exists.intro _ (And.intro (by with_unfolding_all rfl) ?_); conv => whnf)
    cases b3 with
    | true =>
      obtain ⟨rfl, ha⟩ := a3
      have hN := hyes 3 (by decide) hq _ ha
      ((try ((refine Exists.intro none ?_); (conv => whnf))); first | ((with_reducible refine call_by (k3) ?_); conv => whnf))
      exact exit_plain rfl (by rw [hN])
    | false =>
      have ha : L 3 = none := a3
      ((try ((refine Exists.intro none ?_); (conv => whnf))); first | ((with_reducible refine call_by (k3) ?_); conv => whnf))
      refine ⟨4, ⟨⟨by decide, fun j hj => ?_⟩, by decide⟩, ?_⟩
      · by_cases e : j = 3
        · subst e; exact ha
        · exact hq j (by omega)
      conv => whnf
      (refine And.intro (And.intro (by with_unfolding_all rfl) (by intro q h; cases h)) ?_; refine And.intro ?_ (And.intro ?_ ?_) <;> (conv => whnf) <;> (repeat' (first | exact True.intro | (with_reducible exact rfl) | exact (rfl : List.replicate 0 PV.bad = []) | ((with_reducible refine And.intro ?_ ?_) <;> (first | (with_reducible exact wkV_same _ rfl) | exact wkV_pt rfl rfl | exact wkV_ow rfl rfl rfl | (refine wkV_ow rfl rfl ?_) | (refine wkV_sc (congrArg (Value.int .i64) ?_)) | (refine wkV_sc (congrArg Value.bool ?_)) | exact wkV_ls rfl | ((refine wkV_cl ?_); conv => whnf) | ((refine wkV_tu ?_); conv => whnf) | ((refine wkV_ag ?_); conv => whnf) | (conv => whnf))))))
      all_goals first | rfl | trace_state
  · conv => whnf
    ((with_reducible refine And.intro (by with_unfolding_all decide) ?_); refine Exists.intro _ (And.intro (by with_unfolding_all rfl) ?_); conv => whnf)
    cases b4 with
    | true =>
      obtain ⟨rfl, ha⟩ := a4
      have hN := hyes 4 (by decide) hq _ ha
      ((try ((refine Exists.intro none ?_); (conv => whnf))); first | ((with_reducible refine call_by (k4) ?_); conv => whnf))
      exact exit_plain rfl (by rw [hN])
    | false =>
      have ha : L 4 = none := a4
      ((try ((refine Exists.intro none ?_); (conv => whnf))); first | ((with_reducible refine call_by (k4) ?_); conv => whnf))
      refine ⟨5, ⟨⟨by decide, fun j hj => ?_⟩, by decide⟩, ?_⟩
      · by_cases e : j = 4
        · subst e; exact ha
        · exact hq j (by omega)
      conv => whnf
      (refine And.intro (And.intro (by with_unfolding_all rfl) (by intro q h; cases h)) ?_; refine And.intro ?_ (And.intro ?_ ?_) <;> (conv => whnf) <;> (repeat' (first | exact True.intro | (with_reducible exact rfl) | exact (rfl : List.replicate 0 PV.bad = []) | ((with_reducible refine And.intro ?_ ?_) <;> (first | (with_reducible exact wkV_same _ rfl) | exact wkV_pt rfl rfl | exact wkV_ow rfl rfl rfl | (refine wkV_ow rfl rfl ?_) | (refine wkV_sc (congrArg (Value.int .i64) ?_)) | (refine wkV_sc (congrArg Value.bool ?_)) | exact wkV_ls rfl | ((refine wkV_cl ?_); conv => whnf) | ((refine wkV_tu ?_); conv => whnf) | ((refine wkV_ag ?_); conv => whnf) | (conv => whnf))))))
      all_goals first | rfl | trace_state
  · conv => whnf
    ((with_reducible refine And.intro (by with_unfolding_all decide) ?_); refine Exists.intro _ (And.intro (by with_unfolding_all rfl) ?_); conv => whnf)
    cases b5 with
    | true =>
      obtain ⟨rfl, ha⟩ := a5
      have hN := hyes 5 (by decide) hq _ ha
      ((try ((refine Exists.intro none ?_); (conv => whnf))); first | ((with_reducible refine call_by (k5) ?_); conv => whnf))
      exact exit_plain rfl (by rw [hN])
    | false =>
      have ha : L 5 = none := a5
      ((try ((refine Exists.intro none ?_); (conv => whnf))); first | ((with_reducible refine call_by (k5) ?_); conv => whnf))
      refine ⟨6, ⟨⟨by decide, fun j hj => ?_⟩, by decide⟩, ?_⟩
      · by_cases e : j = 5
        · subst e; exact ha
        · exact hq j (by omega)
      conv => whnf
      (refine And.intro (And.intro (by with_unfolding_all rfl) (by intro q h; cases h)) ?_; refine And.intro ?_ (And.intro ?_ ?_) <;> (conv => whnf) <;> (repeat' (first | exact True.intro | (with_reducible exact rfl) | exact (rfl : List.replicate 0 PV.bad = []) | ((with_reducible refine And.intro ?_ ?_) <;> (first | (with_reducible exact wkV_same _ rfl) | exact wkV_pt rfl rfl | exact wkV_ow rfl rfl rfl | (refine wkV_ow rfl rfl ?_) | (refine wkV_sc (congrArg (Value.int .i64) ?_)) | (refine wkV_sc (congrArg Value.bool ?_)) | exact wkV_ls rfl | ((refine wkV_cl ?_); conv => whnf) | ((refine wkV_tu ?_); conv => whnf) | ((refine wkV_ag ?_); conv => whnf) | (conv => whnf))))))
      all_goals first | rfl | trace_state
  · conv => whnf
    exact exit_plain rfl (by rw [hno hq])
theorem c_pNextC (c : Conf) (hc : confB c = false) (full wit : Int) (p : List Pl) (spare spareW silent caught : Int) :
    Ctr Try.prog 40 [.ag c.enc, iv full, iv wit, .sl 4 (p.map Pl.enc), iv spare, iv spareW, iv silent, iv caught] (.tu [.ag stepZ, iv 14]) [] := by
  have kc := c_Check c
  rw [hc, if_neg (by decide)] at kc
  refine spec_of_body mixed Try.func40 rfl (by kernel_rfl) (by kernel_rfl) ?_; conv => whnf
  ((try ((refine Exists.intro none ?_); (conv => whnf))); first | ((with_reducible refine call_by (kc) ?_); conv => whnf))
  exact exit_plain rfl rfl
theorem c_pNextP (c : Conf) (hc : confB c = true) (full wit : Int) (p : List Pl) (hl : p.length ≤ 4294967) (hp : plsB p = false) (spare spareW silent caught : Int) :
    Ctr Try.prog 40 [.ag c.enc, iv full, iv wit, .sl 4 (p.map Pl.enc), iv spare, iv spareW, iv silent, iv caught] (.tu [.ag stepZ, iv 1]) [] := by
  have kc := c_Check c
  rw [hc, if_pos rfl] at kc
  have kp := c_PCheck p hl
  rw [hp, if_neg (by decide)] at kp
  refine spec_of_body mixed Try.func40 rfl (by kernel_rfl) (by kernel_rfl) ?_; conv => whnf
  ((try ((refine Exists.intro none ?_); (conv => whnf))); first | ((with_reducible refine call_by (kc) ?_); conv => whnf))
  ((try ((refine Exists.intro none ?_); (conv => whnf))); first | ((with_reducible refine call_by (kp) ?_); conv => whnf))
  exact exit_plain rfl rfl
theorem c_pNextA (c : Conf) (hc : confB c = true) (full wit : Int) (p : List Pl) (hl : p.length ≤ 4294967) (hp : plsB p = true) (spare spareW silent caught : Int) (hr : ¬ ((1 ≤ full ∧ full ≤ 7) ∧ 0 ≤ wit ∧ wit ≤ 7)) :
    Ctr Try.prog 40 [.ag c.enc, iv full, iv wit, .sl 4 (p.map Pl.enc), iv spare, iv spareW, iv silent, iv caught] (.tu [.ag stepZ, iv 1]) [] := by
  have kc := c_Check c
  rw [hc, if_pos rfl] at kc
  have kp := c_PCheck p hl
  rw [if_pos hp] at kp
  refine spec_of_body mixed Try.func40 rfl (by kernel_rfl) (by kernel_rfl) ?_; conv => whnf
  ((try ((refine Exists.intro none ?_); (conv => whnf))); first | ((with_reducible refine call_by (kc) ?_); conv => whnf))
  ((try ((refine Exists.intro none ?_); (conv => whnf))); first | ((with_reducible refine call_by (kp) ?_); conv => whnf))
  ((first | (with_reducible refine split_dec (fun h => ?_) (fun h => ?_)) | (with_reducible refine split_beq (fun h => ?_) (fun h => ?_)) | (with_reducible refine split_bne (fun h => ?_) (fun h => ?_)) | (with_reducible refine split_not (fun h => ?_) (fun h => ?_)) | (with_reducible refine split_beqS (fun h => ?_) (fun h => ?_)) | (with_reducible refine split_intro (fun h => ?_) (fun h => ?_))) <;> conv => whnf)
  · exact exit_plain rfl rfl
  have h1 := h
  clear h
  ((first | (with_reducible refine split_dec (fun h => ?_) (fun h => ?_)) | (with_reducible refine split_beq (fun h => ?_) (fun h => ?_)) | (with_reducible refine split_bne (fun h => ?_) (fun h => ?_)) | (with_reducible refine split_not (fun h => ?_) (fun h => ?_)) | (with_reducible refine split_beqS (fun h => ?_) (fun h => ?_)) | (with_reducible refine split_intro (fun h => ?_) (fun h => ?_))) <;> conv => whnf)
  · exact exit_plain rfl rfl
  have h2 := h
  clear h
  ((first | (with_reducible refine split_dec (fun h => ?_) (fun h => ?_)) | (with_reducible refine split_beq (fun h => ?_) (fun h => ?_)) | (with_reducible refine split_bne (fun h => ?_) (fun h => ?_)) | (with_reducible refine split_not (fun h => ?_) (fun h => ?_)) | (with_reducible refine split_beqS (fun h => ?_) (fun h => ?_)) | (with_reducible refine split_intro (fun h => ?_) (fun h => ?_))) <;> conv => whnf)
  · exact exit_plain rfl rfl
  have h3 := h
  clear h
  ((first | (with_reducible refine split_dec (fun h => ?_) (fun h => ?_)) | (with_reducible refine split_beq (fun h => ?_) (fun h => ?_)) | (with_reducible refine split_bne (fun h => ?_) (fun h => ?_)) | (with_reducible refine split_not (fun h => ?_) (fun h => ?_)) | (with_reducible refine split_beqS (fun h => ?_) (fun h => ?_)) | (with_reducible refine split_intro (fun h => ?_) (fun h => ?_))) <;> conv => whnf)
  · exact exit_plain rfl rfl
  · exfalso; omega
end Go.Proofs
