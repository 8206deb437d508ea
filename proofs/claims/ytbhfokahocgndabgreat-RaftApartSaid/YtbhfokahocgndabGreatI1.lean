import Derived.Test.YtbhfokahocgndabGreatC1
import Derived.Test.YtbhfokahocgndabGreatH10
import Derived.Test.YtbhfokahocgndabGreatC5
/- Contracts of functions: a message is taken, by its kind: one kind. (genH17.py writes this) -/
set_option linter.unusedSimpArgs false
set_option linter.unusedVariables false
namespace Go.Proofs
open Go.Pv
set_option maxRecDepth 100000
abbrev hc (c : Conf) : Hrd := ⟨0, -1, 0, 0, c, [], []⟩
abbrev ak (c : Conf) (id role votes wait quiet : Int) : Rft := ⟨id, hc c, 0, role, -1, wait, quiet, votes, 0, zA, zA, zA, []⟩
theorem ak_force (c : Conf) (id ro vo w q : Int) : zac (ak c id ro vo w q) = c := rfl
theorem zla (c : Conf) (id ro vo w q : Int) : zb1 (ak c id ro vo w q) = bitB (bor c.full c.wit) id := rfl
theorem tick_n {c : Conf} {id : Int} (hv : bitB (bor c.full c.wit) id = false) (ro vo w q : Int) : tickR (ak c id ro vo w q) = ak c id ro vo w (farM (q + 1)) ∧ tickO (ak c id ro vo w q) = [] := by
 have hv : zb1 (ak c id ro vo w q) = false := hv
 unfold tickR tickO
 exact ⟨if_pos hv, if_pos hv⟩
theorem tick_w {c : Conf} {id : Int} (hv : bitB (bor c.full c.wit) id = true) (ro vo : Int) {w : Int} (hw : 1 < w) (q : Int) : tickR (ak c id ro vo w q) = ak c id ro vo (w - 1) (farM (q + 1)) ∧ tickO (ak c id ro vo w q) = [] := by
 have hv : ¬ zb1 (ak c id ro vo w q) = false := by rw [zla, hv]; decide
 have hz : zeroM (w - 1) = w - 1 := if_neg (by omega)
 have hw : 0 < zeroM ((ak c id ro vo w q).wait - 1) := by show 0 < zeroM (w - 1); rw [hz]; omega
 have e : tw (ak c id ro vo w q) = ak c id ro vo (zeroM (w - 1)) (farM (q + 1)) := rfl
 unfold tickR tickO
 rw [if_neg hv, if_pos hw, if_neg hv, if_pos hw, e, hz]
 exact ⟨rfl, rfl⟩
abbrev askG (id i : Int) : List PV := msgV 1 id i 1 0 0 0 0 false .nl cz .nl
theorem ta_eq (c : Conf) (id ro vo : Int) (q : Int) : taR (ak c id ro vo 1 q) = ak c id 1 (shl 1 id) (delay c id) (farM (q + 1)) := rfl
theorem tick_a {c : Conf} {id : Int} (hv : bitB (bor c.full c.wit) id = true) (ro vo q : Int) (hq : zas c (shl 1 id) = false) : tickR (ak c id ro vo 1 q) = ak c id 1 (shl 1 id) (delay c id) (farM (q + 1)) ∧ tickO (ak c id ro vo 1 q) = (othN id (bor c.full c.wit) 7).map (askG id) := by
 have hv : ¬ zb1 (ak c id ro vo 1 q) = false := by rw [zla, hv]; decide
 have hw : ¬ 0 < zeroM ((ak c id ro vo 1 q).wait - 1) := by show ¬ 0 < zeroM (1 - 1); decide
 have hq : ¬ zas (zac (taR (ak c id ro vo 1 q))) (shl 1 (ak c id ro vo 1 q).id) = true := by
  rw [ta_eq, ak_force]; show ¬ zas c (shl 1 id) = true; rw [hq]; decide
 have ht : (ak c id ro vo 1 q).hard.term < 1099511627776 := by show (0 : Int) < _; decide
 unfold tickR tickO
 rw [if_neg hv, if_neg hw, if_neg hq, if_neg hv, if_neg hw, if_neg hq, if_pos ht, ta_eq]
 exact ⟨rfl, rfl⟩
theorem zli {c : Conf} (hc' : confB c = true) {id ro vo w q : Int} (hid : 0 ≤ id ∧ id < 7) (hr : 0 ≤ ro ∧ ro ≤ 3) (hn : ro ≠ 3) (hvo : 0 ≤ vo ∧ vo ≤ 127) (hw : 0 ≤ w ∧ w ≤ 100) (hq : 0 ≤ q ∧ q ≤ 1099511627776) : zdv (ak c id ro vo w q) = true := by
 have h1 : hardB (hc c) = true := by
  unfold hardB
  rw [show (hc c).baseConf = c from rfl, hc']
  have hA : HardA (hc c) := ⟨by show (0 : Int) ≤ 0 ∧ (0 : Int) ≤ 1099511627776; decide, by show (-1 : Int) ≤ -1 ∧ (-1 : Int) ≤ 6; decide, by show (0 : Int) ≤ 0 ∧ (0 : Int) ≤ 1099511627776; decide, by show (0 : Int) ≤ 0 ∧ (0 : Int) ≤ 0; decide, by show (0 : Int) = 0 ↔ (0 : Int) = 0; decide⟩
  rw [zd3 hA]; rfl
 have h2 : inR 6 id = true := zad (by omega)
 have h3 : inR 3 ro = true := zad hr
 have h4 : inR 100 w = true := zad hw
 have h5 : inR far q = true := zad hq
 have h6 : inR 127 vo = true := zad hvo
 have h7 : lastI (hc c) = 0 := rfl
 have h8 : rdsB (ak c id ro vo w q) = true := by
  unfold rdsB
  rw [if_neg (by show ¬ 4 < 0; omega), if_neg (by show ¬ (0 < 0 ∧ _); omega)]; rfl
 have hz : arrR far zA = true := by decide
 have hz0 : arrR (lastI (hc c)) zA = true := by rw [h7]; decide
 unfold zdv
 simp only [Bool.and_eq_true, decide_eq_true_eq]
 exact ⟨h1, h2, by show (0 : Int) ≤ 0; decide, by show (0 : Int) ≤ lastI (hc c); rw [h7]; decide, h3, by show (-1 : Int) ≤ -1; decide, by show (-1 : Int) < 7; decide, h4, ⟨h5, by show inR far 0 = true; decide⟩, h6, hz, hz0, hz, h8, by rw [if_neg (by exact hn)]⟩
abbrev c18 : Conf := ⟨1, 0, 0, 0⟩
theorem v18 : bitB (bor c18.full c18.wit) 0 = true := by simp only [bitB, bor, band, zeh, zf9]; kernel_rfl
theorem d18 : delay c18 0 = 6 := by simp only [delay, bitB, band, zeh]; kernel_rfl
theorem k18 : confB c18 = true := by simp only [confB, bor, band, zeh, zf9]; kernel_rfl
theorem q18 : zas c18 (shl 1 0) = true := by
 unfold zas
 have e1 : count (bor c18.full c18.wit) = 1 := by simp only [count, cnt, bor, zf9]; kernel_rfl
 have e2 : count (band (bor c18.full c18.wit) (shl 1 0)) = 1 := by simp only [count, cnt, bor, band, shl, zf9, zeh]; kernel_rfl
 rw [e1, e2]; rfl
theorem s18 (c : Conf) (id ro vo w q : Int) : zac (stdR (ak c id ro vo w q)) = c := rfl
theorem t18 (q : Int) : tickR (ak c18 0 0 0 1 q) = leadR (stdR (taR (ak c18 0 0 0 1 q))) := by
 have hv : ¬ zb1 (ak c18 0 0 0 1 q) = false := by rw [zla, v18]; decide
 have hw : ¬ 0 < zeroM ((ak c18 0 0 0 1 q).wait - 1) := by show ¬ 0 < zeroM (1 - 1); decide
 have hq : zas (zac (taR (ak c18 0 0 0 1 q))) (shl 1 (ak c18 0 0 0 1 q).id) = true := by
  rw [ta_eq, ak_force]; exact q18
 unfold tickR
 rw [if_neg hv, if_neg hw, if_pos hq]
 unfold zed
 rw [if_neg (by rw [ta_eq]; show ¬ (0 : Int) = 1099511627776; decide), if_pos (by rw [ta_eq, s18]; exact q18)]
theorem l18 (q : Int) : (leadR (stdR (taR (ak c18 0 0 0 1 q)))).commit = 1 := by
 show zcu (logR (led0 (stdR (taR (ak c18 0 0 0 1 q)))) (et 1)) 0 (zA.put 0 (lastI (logR (led0 (stdR (taR (ak c18 0 0 0 1 q)))) (et 1)))) = 1
 have eh : logR (led0 (stdR (taR (ak c18 0 0 0 1 q)))) (et 1) = ⟨1, 0, 0, 0, c18, [], [et 1]⟩ := rfl
 rw [eh]
 have el : lastI ⟨1, 0, 0, 0, c18, [], [et 1]⟩ = 1 := by kernel_rfl
 rw [el]
 show down (hit ⟨1, 0, 0, 0, c18, [], [et 1]⟩ ⟨1, 0, 0, 0, 0, 0, 0⟩) 0 0 (1 + 1) = 1
 have e : haveB ⟨1, 0, 0, 0, 0, 0, 0⟩ 1 7 = bor 0 (shl 1 0) := by kernel_rfl
 have hh : hit ⟨1, 0, 0, 0, c18, [], [et 1]⟩ ⟨1, 0, 0, 0, 0, 0, 0⟩ 1 = true := by
  unfold hit
  rw [show fits ⟨1, 0, 0, 0, c18, [], [et 1]⟩ 1 1 = true from by kernel_rfl, e, show (force ⟨1, 0, 0, 0, c18, [], [et 1]⟩ (lastI ⟨1, 0, 0, 0, c18, [], [et 1]⟩)).1 = c18 from by kernel_rfl]
  unfold zas
  have e1 : count (bor c18.full c18.wit) = 1 := by simp only [count, cnt, bor, zf9]; kernel_rfl
  have e2 : count (band (bor c18.full c18.wit) (bor 0 (shl 1 0))) = 1 := by simp only [count, cnt, bor, band, shl, zf9, zeh]; kernel_rfl
  rw [e1, e2]; rfl
 rw [down, if_pos (by decide), if_pos (by exact hh)]; rfl
theorem kt18 (w q : Int) (hw : 1 < w ∧ w ≤ 100) (hq : 0 ≤ q ∧ q ≤ 1000) : Ctr Tryz.prog 12 [.ag (ak c18 0 0 0 w q).enc] (.tu [.ag (ak c18 0 0 0 (w - 1) (q + 1)).enc, .sl 16 [], iv 0]) [] := by
 have k := c_Tick (ak c18 0 0 0 w q) (zli k18 (by decide) (by decide) (by decide) (by decide) (by omega) (by omega)) (by show 0 < 4294967; decide) (by show (0 : Int) ≠ 3; decide)
 obtain ⟨e1, e2⟩ := tick_w (w := w) v18 0 0 hw.1 q
 rw [e1, e2, show farM (q + 1) = q + 1 from if_neg (by omega)] at k
 exact k
theorem Lx {L : Rft} {H : Hrd} (h1 : L.role = 3) (h2 : L.commit = 1) (h3 : L.hard = H) : L = { L with role := 3, commit := 1, hard := H } := by
 cases L; simp_all
set_option maxHeartbeats 4000000 in
theorem zdx : Ctr Tryz.prog 15 [] (bv true) [] := by
 have kb := c_rBegin c18
 have hh : hardB (hc c18) = true := (rgt_of (zli k18 (id := 0) (ro := 0) (vo := 0) (w := 6) (q := 0) (by decide) (by decide) (by decide) (by decide) (by decide) (by decide))).hard
 have kn := c_New 0 (by decide) (hc c18) (by show 0 ≤ 4294967; decide) hh
 rw [show newR 0 (hc c18) = ak c18 0 0 0 6 0 by show ak c18 0 0 0 (delay c18 0) 0 = _; rw [d18]] at kn
 have k6 : Ctr Tryz.prog 12 [.ag (ak c18 0 0 0 6 0).enc] (.tu [.ag (ak c18 0 0 0 5 1).enc, .sl 16 [], iv 0]) [] := kt18 6 0 (by decide) (by decide)
 have k5 : Ctr Tryz.prog 12 [.ag (ak c18 0 0 0 5 1).enc] (.tu [.ag (ak c18 0 0 0 4 2).enc, .sl 16 [], iv 0]) [] := kt18 5 1 (by decide) (by decide)
 have k4 : Ctr Tryz.prog 12 [.ag (ak c18 0 0 0 4 2).enc] (.tu [.ag (ak c18 0 0 0 3 3).enc, .sl 16 [], iv 0]) [] := kt18 4 2 (by decide) (by decide)
 have k3 : Ctr Tryz.prog 12 [.ag (ak c18 0 0 0 3 3).enc] (.tu [.ag (ak c18 0 0 0 2 4).enc, .sl 16 [], iv 0]) [] := kt18 3 3 (by decide) (by decide)
 have k2 : Ctr Tryz.prog 12 [.ag (ak c18 0 0 0 2 4).enc] (.tu [.ag (ak c18 0 0 0 1 5).enc, .sl 16 [], iv 0]) [] := kt18 2 4 (by decide) (by decide)
 have k1 := c_Tick (ak c18 0 0 0 1 5) (zli k18 (by decide) (by decide) (by decide) (by decide) (by omega) (by omega)) (by show 0 < 4294967; decide) (by show (0 : Int) ≠ 3; decide)
 rw [t18, Lx (L := leadR (stdR (taR (ak c18 0 0 0 1 5)))) (H := ⟨1, 0, 0, 0, c18, [], [et 1]⟩) rfl (l18 5) rfl] at k1
 generalize leadR (stdR (taR (ak c18 0 0 0 1 5))) = L at k1
 generalize tickO (ak c18 0 0 0 1 5) = O at k1
 refine sBody Tryz.func15 ?_; conv => whnf
 ((try (refine Exists.intro none ?_; conv => whnf)); (with_reducible refine zaa (kb) ?_); conv => whnf)
 ((try ((refine Exists.intro none ?_); (conv => whnf))); refine za9 (kn) (by (repeat' (first | exact za6 | exact za5 | refine zaz ?_ ?_ | refine za0 ?_ ?_ | exact SubV.refl _ | exact zbn | (with_reducible exact zb2 rfl) | refine zby ?_ | refine zb0 ?_ | refine zbz ?_))) ?_; conv => whnf)
 (refine new0 ?_; conv => whnf)
 refine zb7 mixed (by kernel_rfl) 8 ?_
 conv => whnf
 ((try (refine Exists.intro none ?_; conv => whnf)); (with_reducible refine zaa (k6) ?_); conv => whnf)
 (refine new0 ?_; conv => whnf)
 ((try (refine Exists.intro none ?_; conv => whnf)); (with_reducible refine zaa (k5) ?_); conv => whnf)
 (refine new0 ?_; conv => whnf)
 ((try (refine Exists.intro none ?_; conv => whnf)); (with_reducible refine zaa (k4) ?_); conv => whnf)
 (refine new0 ?_; conv => whnf)
 ((try (refine Exists.intro none ?_; conv => whnf)); (with_reducible refine zaa (k3) ?_); conv => whnf)
 (refine new0 ?_; conv => whnf)
 ((try (refine Exists.intro none ?_; conv => whnf)); (with_reducible refine zaa (k2) ?_); conv => whnf)
 (refine new0 ?_; conv => whnf)
 ((try (refine Exists.intro none ?_; conv => whnf)); (with_reducible refine zaa (k1) ?_); conv => whnf)
 (refine new0 ?_; conv => whnf)
 exact zab rfl rfl
theorem zbs {n : Nat} (hn : n < 7) (b : Int) : bitB b n = tb b n := by
 rw [← zcf (by simp [zan]; omega), zge b n (by omega)]
theorem cnt_one (x : Int) {n : Nat} (hn : n < 7) : ∀ k : Nat, cnt (band x (shl 1 n)) k ≤ if n < k then 1 else 0
 | 0 => by rw [if_neg (by omega)]; exact Int.le_refl _
 | k + 1 => by
  have ih := cnt_one x hn k
  show cnt _ k + nb (tb (band x (shl 1 n)) k) ≤ _
  rw [zc6, zdu n k (by omega)]
  by_cases hk : n = k
  ·subst hk
   rw [if_neg (by omega)] at ih
   rw [if_pos (by omega)]
   rcases zgo (tb x n && decide (n = n)) with h | h <;> rw [h] <;> omega
  ·rw [decide_eq_false hk, Bool.and_false]
   show cnt _ k + 0 ≤ _
   by_cases h : n < k
   ·rw [if_pos h] at ih; rw [if_pos (by omega)]; omega
   ·rw [if_neg h] at ih; rw [if_neg (by omega)]; omega
theorem zdh {c : Conf} {n : Nat} (hn : n < 7) (h2 : 2 ≤ count (bor c.full c.wit)) : zas c (shl 1 n) = false := by
 have h := cnt_one (bor c.full c.wit) hn 7
 rw [if_pos hn] at h
 unfold zas count at *
 exact decide_eq_false (by omega)
theorem shl_fit {n : Nat} (hn : n < 7) : 0 ≤ shl 1 n ∧ shl 1 n ≤ 127 := by
 rw [zlf n (by omega)]
 rcases (by omega : n = 0 ∨ n = 1 ∨ n = 2 ∨ n = 3 ∨ n = 4 ∨ n = 5 ∨ n = 6) with rfl | rfl | rfl | rfl | rfl | rfl | rfl <;> decide
noncomputable def zid (r : Rft) (m : Mg) : Bool := inR 6 m.frm && (decide (¬ m.frm = r.id) && (decide (m.to = r.id) && (decide (1 ≤ m.kind) && (decide (m.kind ≤ 8) && ((inR far m.term && inR far m.logTerm) && (inR far m.index && inR far m.round))))))
abbrev rzv : List PV := [iv 0, iv 0, iv 0, iv 0, iv 0, iv 0, iv 0, iv 0, iv 0, .nl, .nl, iv 0, iv 0, iv 0, iv 0, iv 0, iv 0, iv 0, iv 0, iv 0, iv 0, iv 0, iv 0, iv 0, iv 0, iv 0, iv 0, iv 0, iv 0, iv 0, iv 0, iv 0, iv 0, iv 0, iv 0, iv 0, iv 0, iv 0, iv 0, .nl]
end Go.Proofs
