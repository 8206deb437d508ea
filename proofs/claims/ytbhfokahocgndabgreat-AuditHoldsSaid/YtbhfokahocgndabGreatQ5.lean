import Derived.Test.YtbhfokahocgndabGreatC1
import Derived.Test.YtbhfokahocgndabGreatK4
import Derived.Test.YtbhfokahocgndabGreatH8
import Derived.Test.YtbhfokahocgndabGreatY3
import Derived.Test.YtbhfokahocgndabGreatI1
/- Contracts of functions: a configuration is put into the log, by the program and by the page. -/
set_option linter.unusedSimpArgs false
set_option linter.unusedVariables false
namespace Go.Proofs
open Go.Pv
set_option maxRecDepth 100000
noncomputable abbrev mayB (r : Rft) : Bool := fits r.hard r.commit r.hard.term && decide ((force r.hard (lastI r.hard)).2 ≤ r.commit)
noncomputable def chgE (r : Rft) (c : Conf) : Int := if zds r = 0 then (if mayB r = true then (if nearR (zac r) c = true ∧ ¬ zac r = c then (if r.hard.log.length < 64 then 0 else 5) else 14) else 13) else 11
def nxt (f : Nat → Bool) (v : Int) (a : Arr) : Nat → Arr
 | 0 => a
 | k + 1 => if f k = true then (nxt f v a k).put k v else nxt f v a k
theorem zgr {f : Nat → Bool} {v : Int} {a : Arr} {k : Nat} (h : f k = true) : nxt f v a (k + 1) = (nxt f v a k).put k v := if_pos h
theorem zef {f : Nat → Bool} {v : Int} {a : Arr} {k : Nat} (h : f k = false) : nxt f v a (k + 1) = nxt f v a k := if_neg (by rw [h]; decide)
noncomputable def newB (was c : Conf) (k : Nat) : Bool := tb (allB c) k && !tb (allB was) k
theorem chgE_ok {r : Rft} {c : Conf} (he : chgE r c = 0) : zds r = 0 ∧ mayB r = true ∧ nearR (zac r) c = true ∧ ¬ zac r = c ∧ r.hard.log.length < 64 := by
 unfold chgE at he
 by_cases h1 : zds r = 0
 ·rw [if_pos h1] at he
  by_cases h2 : mayB r = true
  ·rw [if_pos h2] at he
   by_cases h3 : nearR (zac r) c = true ∧ ¬ zac r = c
   ·rw [if_pos h3] at he
    by_cases h4 : r.hard.log.length < 64
    ·exact ⟨h1, h2, h3.1, h3.2, h4⟩
    ·rw [if_neg h4] at he; omega
   ·rw [if_neg h3] at he; omega
  ·rw [if_neg h2] at he; omega
 ·rw [if_neg h1] at he; omega
abbrev ecf (r : Rft) (c : Conf) : Ent := ⟨r.hard.term, 2, kz, c⟩
noncomputable abbrev nxR (r : Rft) (c : Conf) (k : Nat) : Rft := { r with next := nxt (newB (zac r) c) (lastI r.hard + 1) r.next k }
structure Mx where
 kind : Int
 frm : Int
 to : Int
 term : Int
 index : Int
 logT : Int
 commit : Int
 round : Int
 yes : Bool
 es : PV
 cf : Conf
 sn : PV
abbrev Mx.enc (x : Mx) : List PV := msgV x.kind x.frm x.to x.term x.index x.logT x.commit x.round x.yes x.es x.cf x.sn
def Mx.mute (x : Mx) : Prop := x.kind ≠ 4 ∧ x.kind ≠ 6
def Rows (P : Mx → Prop) (O : List (List PV)) : Prop := ∃ L : List Mx, O = L.map Mx.enc ∧ (∀ x ∈ L, P x) ∧ L.length ≤ 7
theorem zpp {α : Type} {P : Mx → Prop} {f : α → List PV} (l : List α) (hl : l.length ≤ 7) (h : ∀ a, ∃ x : Mx, f a = x.enc ∧ P x) : Rows P (l.map f) := by
 have key : ∃ L : List Mx, l.map f = L.map Mx.enc ∧ (∀ x ∈ L, P x) ∧ L.length = l.length := by
  clear hl
  induction l with
  | nil => exact ⟨[], rfl, fun x h => absurd h (List.not_mem_nil), rfl⟩
  | cons a l ih =>
   obtain ⟨x, e, hx⟩ := h a
   obtain ⟨L, eL, hL, hn⟩ := ih
   refine ⟨x :: L, by rw [List.map_cons, List.map_cons, e, eL], fun y hy => ?_, by rw [List.length_cons, List.length_cons, hn]⟩
   rcases List.mem_cons.1 hy with rfl | hy
   ·exact hx
   ·exact hL y hy
 obtain ⟨L, e, hL, hn⟩ := key
 exact ⟨L, e, hL, by omega⟩
structure Tak (r : Rft) (m : Mg) (R : Rft) (x : Mx) : Prop where
 vot : x.kind = 4 → x.yes = true → m.kind = 3 ∧ R.hard.vote = m.frm ∧ R.hard.term = m.term ∧ x.to = m.frm ∧ x.term = R.hard.term ∧ newer r.hard m.index m.logTerm = true ∧ R.role = 0
 gro : x.kind = 6 → x.yes = true → x.index ≤ lastI R.hard ∧ R.lead = m.frm ∧ R.role = 0 ∧ R.quiet = 0 ∧ x.round = m.round ∧
  (m.kind = 5 → ∀ k (h : k < m.entries.length), R.hard.base < m.index + 1 + k → ∃ e, entAt R.hard (m.index + 1 + k) = some e ∧ e.term = (m.entries[k]'h).term)
theorem Mx.mute.tak {x : Mx} (h : x.mute) (r : Rft) (m : Mg) (R : Rft) : Tak r m R x := ⟨fun e => absurd e h.1, fun e => absurd e h.2⟩
structure Got (r : Rft) (m : Mg) (R : Rft) : Prop where
 log : R.hard.log.length ≤ 4294000
 base : 0 ≤ R.hard.base ∧ R.hard.base ≤ 1099511627776
 led : r.role = 3 → r.hard.vote = r.id → m.term ≤ r.hard.term → R.hard = r.hard ∧ R.role = 3
theorem zj6 (r : Rft) (t l : Int) : (fallR r t l).hard.base = r.hard.base := by unfold fallR; split <;> rfl
theorem zfn (r : Rft) (t l : Int) : (fallR r t l).role = 0 := rfl
theorem fall_id (r : Rft) (t l : Int) : (fallR r t l).id = r.id := rfl
theorem zhe (r : Rft) (m : Mg) : (folR r m).hard = r.hard := zd3 r m.frm
theorem app_got (x : Rft) (m : Mg) (hl : x.hard.log.length ≤ 4293000) : (appR x m).hard.base = x.hard.base ∧ (appR x m).hard.log.length ≤ x.hard.log.length + 8 := by
 unfold appR
 split
 ·exact ⟨rfl, by omega⟩
 ·split
  ·rename_i he
   rw [zhe]
   exact ⟨zm6 he, zhf (by omega) he⟩
  ·exact ⟨rfl, by omega⟩
theorem zh2 (h : Hrd) (i t : Int) (c : Conf) (s : List Int) : (instH h i t c s).log.length ≤ h.log.length := by
 unfold instH
 show (if fits h i t = true then h.log.drop (i - h.base).toNat else []).length ≤ _
 split
 ·rw [List.length_drop]; omega
 ·exact Nat.zero_le _
theorem lrn_got (x : Rft) (m : Mg) : (zck x m).hard = x.hard ∧ (zck x m).role = x.role := by
 unfold zck; split <;> exact ⟨rfl, rfl⟩
theorem zca {m : Mg} {k : Int} (h : m.kind = k) : mkM m k = m := by cases m; cases h; rfl
theorem zif {m : Mg} {k : Int} {y : Bool} (h : m.kind = k) (hy : m.yes = y) : mkY m k y = m := by cases m; cases h; cases hy; rfl
structure RightM (r : Rft) (m : Mg) : Prop where
 frm : 0 ≤ m.frm ∧ m.frm < 7
 ne : m.frm ≠ r.id
 to : m.to = r.id
 kind : 1 ≤ m.kind ∧ m.kind ≤ 8
 term : 0 ≤ m.term ∧ m.term ≤ 1099511627776
 index : 0 ≤ m.index ∧ m.index ≤ 1099511627776
theorem zt9 {r : Rft} {m : Mg} (h : zjv r m = true) : RightM r m := by
 unfold zjv at h
 simp only [Bool.and_eq_true, decide_eq_true_eq] at h
 obtain ⟨h1, h2, h3, h4, h5, ⟨h6, _⟩, h7, _⟩ := h
 have h1 := zc5 h1
 exact ⟨by omega, h2, h3, ⟨h4, h5⟩, zc5 h6, zc5 h7⟩
theorem zhq (r : Rft) (t l : Int) : lastI (fallR r t l).hard = lastI r.hard := by
 unfold lastI
 rw [zet, zj6]
structure Taken (r : Rft) (m : Mg) (R : Rft) (O : List (List PV)) (E : Int) : Prop where
 run : CtrE Tryz.prog 52 [.pt 1000000 0, .ag m.enc] [(1000000, repI r [])] (obI r []) (iv E) [(1000000, repX R ([] ++ O))] obX
 got : E = 0 → Got r m R
 tak : E = 0 → Rows (Tak r m R) O
inductive Outc (r : Rft) (m : Mg) : Prop
 | bad (E : Int) (hE : ¬ E = 0) (k : Ctr Tryz.prog 14 [.ag r.enc, .ag m.enc] (.tu [.ag rzv, .nl, iv E]) [])
 | ok (R : Rft) (L : List Mx) (k : Ctr Tryz.prog 14 [.ag r.enc, .ag m.enc] (.tu [.ag R.enc, .sl 16 (L.map Mx.enc), iv 0]) []) (g : Got r m R) (t : ∀ x ∈ L, Tak r m R x) (n : L.length ≤ 7) (w : RightM r m) (hr : ze7 r = true)
theorem zme {g : Int} {a : Arr} (h : ∀ i, i < 7 → 0 ≤ a.at i ∧ a.at i ≤ g) : arrR g a = true := by
 unfold arrR
 have h0 : inR g a.a0 = true := zch (h 0 (by decide))
 have h1 : inR g a.a1 = true := zch (h 1 (by decide))
 have h2 : inR g a.a2 = true := zch (h 2 (by decide))
 have h3 : inR g a.a3 = true := zch (h 3 (by decide))
 have h4 : inR g a.a4 = true := zch (h 4 (by decide))
 have h5 : inR g a.a5 = true := zch (h 5 (by decide))
 have h6 : inR g a.a6 = true := zch (h 6 (by decide))
 rw [h0, h1, h2, h3, h4, h5, h6]; rfl
theorem zy9 {r : Rft} (h : Rgt r) : ze7 r = true := by
 have hl := h.lead
 unfold ze7
 simp only [Bool.and_eq_true, decide_eq_true_eq]
 refine ⟨h.hard, zch (by have := h.id; omega), h.com.1, h.com.2, zch h.role, hl.1, hl.2, zch h.wait, ⟨zch h.quiet, zch h.round⟩, zch h.votes, zme h.next, zme h.mtch, zme h.silent, h.reads, ?_⟩
 split
 ·rename_i e; exact decide_eq_true (h.own e)
 ·rfl
theorem zmd {P : Nat → Prop} (h0 : P 0) (h1 : P 1) (h2 : P 2) (h3 : P 3) (h4 : P 4) (h5 : P 5) (h6 : P 6) : ∀ i, i < 7 → P i := by
 intro i hi
 rcases (by omega : i = 0 ∨ i = 1 ∨ i = 2 ∨ i = 3 ∨ i = 4 ∨ i = 5 ∨ i = 6) with rfl | rfl | rfl | rfl | rfl | rfl | rfl
 ·exact h0
 ·exact h1
 ·exact h2
 ·exact h3
 ·exact h4
 ·exact h5
 ·exact h6
theorem zA_at : ∀ i, i < 7 → zA.at i = 0 := zmd rfl rfl rfl rfl rfl rfl rfl
theorem allA_at (n : Int) : ∀ i, i < 7 → (allA n).at i = n := zmd rfl rfl rfl rfl rfl rfl rfl
theorem zh7 {g : Int} (hg : 0 ≤ g) : ∀ i, i < 7 → 0 ≤ zA.at i ∧ zA.at i ≤ g := fun i hi => by rw [zA_at i hi]; omega
theorem zkf {a : Arr} {g : Int} (h : ∀ i, i < 7 → 0 ≤ a.at i ∧ a.at i ≤ g) {k : Nat} {v : Int} (hv : 0 ≤ v ∧ v ≤ g) : ∀ i, i < 7 → 0 ≤ (a.put k v).at i ∧ (a.put k v).at i ≤ g := by
 have key : ∀ i, i < 7 → (a.put k v).at i = a.at i ∨ (a.put k v).at i = v := by
  by_cases hk : k < 7
  ·rcases (by omega : k = 0 ∨ k = 1 ∨ k = 2 ∨ k = 3 ∨ k = 4 ∨ k = 5 ∨ k = 6) with rfl | rfl | rfl | rfl | rfl | rfl | rfl <;>
     exact zmd (by first | exact .inl rfl | exact .inr rfl) (by first | exact .inl rfl | exact .inr rfl) (by first | exact .inl rfl | exact .inr rfl) (by first | exact .inl rfl | exact .inr rfl) (by first | exact .inl rfl | exact .inr rfl) (by first | exact .inl rfl | exact .inr rfl) (by first | exact .inl rfl | exact .inr rfl)
  ·have e : a.put k v = a := by
     unfold Arr.put
     split <;> first | omega | rfl
   intro i hi
   rw [e]; exact .inl rfl
 intro i hi
 rcases key i hi with e | e
 ·rw [e]; exact h i hi
 ·rw [e]; exact hv
theorem zhm {r : Rft} (h : r.reads = []) : rdsB r = true := by
 unfold rdsB
 rw [h, if_neg (by show ¬ 4 < 0; omega), if_neg (by show ¬ (0 < 0 ∧ _); omega)]; rfl
theorem zwg {c c' : Int} (h : c ≤ c') {x : Rd} (hx : rdB c x = true) : rdB c' x = true := by
 unfold rdB at hx ⊢
 simp only [Bool.and_eq_true] at hx ⊢
 have h1 := zc5 hx.2.1
 exact ⟨hx.1, zch (by omega), hx.2.2⟩
theorem znj {r : Rft} (h : rdsB r = true) : r.reads.length ≤ 4 ∧ (0 < r.reads.length → r.role = 3) ∧ ∀ x ∈ r.reads, rdB r.commit x = true := by
 unfold rdsB at h
 split at h
 ·cases h
 ·split at h
  ·cases h
  ·rename_i h1 h2
   rw [List.all_eq_true] at h
   exact ⟨by omega, fun h3 => Classical.byContradiction fun h4 => h2 ⟨h3, h4⟩, h⟩
theorem zmk {r : Rft} (h1 : r.reads.length ≤ 4) (h2 : 0 < r.reads.length → r.role = 3) (h3 : ∀ x ∈ r.reads, rdB r.commit x = true) : rdsB r = true := by
 unfold rdsB
 rw [if_neg (by omega), if_neg (fun h => h.2 (h2 h.1)), List.all_eq_true]
 exact h3
theorem zjw {h : Hrd} (hh : hardB h = true) {t v : Int} (ht : h.term ≤ t ∧ t ≤ 1099511627776) (hv : -1 ≤ v ∧ v ≤ 6) : hardB { h with term := t, vote := v } = true := by
 obtain ⟨hA, h2, h3, h4⟩ := za2 hh
 have hA' : HardA { h with term := t, vote := v } := ⟨by have := hA.t; show 0 ≤ t ∧ t ≤ _; omega, hv, hA.b, by have := hA.bt; show 0 ≤ h.baseTerm ∧ h.baseTerm ≤ t; omega, hA.z⟩
 unfold hardB
 rw [zbm hA', show (({ h with term := t, vote := v } : Hrd)).baseConf = h.baseConf from rfl, h2, decide_eq_true h3, znh _ _ _ _ ht.1 h4]; rfl
theorem ztl {r : Rft} (h : Rgt r) {t l : Int} (ht : r.hard.term ≤ t ∧ t ≤ 1099511627776) (hl : -1 ≤ l ∧ l < 7) : Rgt (fallR r t l) := by
 have hd := zd2 (zac r) h.id
 have hc := h.com
 have hb := (za2 h.hard).1.b
 have hz : ∀ i, i < 7 → 0 ≤ zA.at i ∧ zA.at i ≤ 1099511627776 := zh7 (by decide)
 refine ⟨?_, h.id, ⟨by rw [zj6]; exact hc.1, by rw [zhq]; exact hc.2⟩, by show (0 : Int) ≤ 0 ∧ (0 : Int) ≤ 3; decide, hl, ⟨hd.1, Int.le_trans hd.2 (by decide)⟩, h.quiet, h.round, by show (0 : Int) ≤ 0 ∧ (0 : Int) ≤ 127; decide, hz, by rw [zhq]; exact zh7 (by omega), hz, zhm rfl, fun e => absurd e (by show ¬ (0 : Int) = 3; decide)⟩
 show hardB (if t > r.hard.term then { r.hard with term := t, vote := -1 } else r.hard) = true
 split
 ·exact zjw h.hard ht (by decide)
 ·exact h.hard
theorem zk7 {h : Hrd} (hh : hardB h = true) (hl : h.log.length ≤ 4294967) {c : Int} (m : Arr) (hc : h.base ≤ c ∧ c ≤ lastI h) : c ≤ zdt h c m ∧ zdt h c m ≤ lastI h := by
 have hla := zd8 hh hl
 refine ⟨zl1 _, ?_⟩
 unfold zdt
 rcases zke (p := hit h m) (base := h.base) (commit := c) (h.log.length + 1) with e | e
 ·rw [e]; exact hc.2
 ·rw [hla]; omega
theorem zuh {h : Hrd} (hh : hardB h = true) {x : Ent} (hx : zeo x = true) (ht : x.term = h.term) (h1 : 1 ≤ h.term) : hardB { h with log := h.log ++ [x] } = true := by
 obtain ⟨hA, h2, h3, h4⟩ := za2 hh
 refine zn8 hh ?_
 rw [zd4, h4, Bool.true_and]
 have hb : behind h.log h.baseTerm h.log.length ≤ h.term := by
  cases hn : h.log.length with
  | zero => rw [zee]; exact hA.bt.2
  | succ k => exact hn ▸ (zkv h4 (q := h.log.length) (by omega) (Nat.le_refl _)).2
 unfold rowB
 rw [hx, decide_eq_true (show max (behind h.log h.baseTerm h.log.length) 1 ≤ x.term ∧ x.term ≤ h.term by omega)]
 rfl
theorem zob {r : Rft} (h : Rgt r) (hl : r.hard.log.length < 4294960) (x : Ent) : lastI (logR r x) = lastI r.hard + 1 ∧ (logR r x).log.length = r.hard.log.length + 1 := by
 have hb := (za2 h.hard).1.b
 have e : (logR r x).log.length = r.hard.log.length + 1 := by rw [List.length_append]; rfl
 have eb : (logR r x).base = r.hard.base := rfl
 refine ⟨?_, e⟩
 rw [zbe (h := logR r x) hb.1 (by rw [e, eb]; omega), zbe (h := r.hard) hb.1 (by omega), e, eb]
 omega
theorem zn0 {r : Rft} (h : Rgt r) (hl : r.hard.log.length < 4294960) {x : Ent} (hx : zeo x = true) (ht : x.term = r.hard.term) (h1 : 1 ≤ r.hard.term) : Rgt (addR r x) := by
 have hh : hardB (logR r x) = true := zuh h.hard hx ht h1
 obtain ⟨e1, e2⟩ := zob h hl x
 have hb := (za2 h.hard).1.b
 have hc := h.com
 have hcf := zk7 hh (by omega) (c := r.commit) (r.mtch.put r.id.toNat (lastI (logR r x))) ⟨hc.1, by rw [e1]; omega⟩
 have hm : ∀ i, i < 7 → 0 ≤ r.mtch.at i ∧ r.mtch.at i ≤ lastI (logR r x) := fun i hi => by have := h.mtch i hi; rw [e1]; omega
 obtain ⟨q1, q2, q3⟩ := znj h.reads
 refine ⟨hh, h.id, ⟨Int.le_trans hc.1 hcf.1, hcf.2⟩, h.role, h.lead, h.wait, h.quiet, h.round, h.votes, h.next, zkf hm (by rw [e1]; omega), h.silent, zmk q1 q2 fun y hy => zwg hcf.1 (q3 y hy), h.own⟩
theorem et_yes (t : Int) : zeo (et t) = true := by
 unfold zeo
 rw [if_pos rfl]
 rfl
theorem zio {n : Int} (h : 0 ≤ n) : 0 ≤ farM n ∧ farM n ≤ 1099511627776 := by unfold farM; split <;> omega
theorem zs8 {r : Rft} (h : Rgt r) (hl : r.hard.log.length < 4294960) (h1 : 1 ≤ r.hard.term) (hla : lastI r.hard < 1099511627776) : Rgt (leadR r) := by
 have hr := h.round
 have hz : ∀ i, i < 7 → 0 ≤ zA.at i ∧ zA.at i ≤ 1099511627776 := zh7 (by decide)
 have hb := (za2 h.hard).1.b
 have hc := h.com
 have h0 : Rgt (led0 r) := ⟨h.hard, h.id, h.com, by show (0 : Int) ≤ 3 ∧ (3 : Int) ≤ 3; decide, by have := h.id; show -1 ≤ r.id ∧ r.id < 7; omega, h.wait, by show (0 : Int) ≤ 0 ∧ (0 : Int) ≤ 1099511627776; decide, zio (by omega), by show (0 : Int) ≤ 0 ∧ (0 : Int) ≤ 127; decide, h.next, zh7 (by show 0 ≤ lastI r.hard; omega), hz, zhm rfl, fun _ => rfl⟩
 have h2 := zn0 h0 hl (et_yes r.hard.term) rfl h1
 obtain ⟨e1, e2⟩ := zob h hl (et r.hard.term)
 refine ⟨h2.hard, h2.id, h2.com, h2.role, h2.lead, h2.wait, h2.quiet, h2.round, h2.votes, ?_, h2.mtch, h2.silent, h2.reads, h2.own⟩
 intro i hi
 show 0 ≤ (allA (lastI (logR r (et r.hard.term)))).at i ∧ (allA (lastI (logR r (et r.hard.term)))).at i ≤ _
 rw [allA_at _ i hi, e1]; omega
theorem zhb {i : Int} (h : 0 ≤ i ∧ i < 7) : 0 ≤ shl 1 i ∧ shl 1 i ≤ 127 := by
 obtain ⟨n, rfl⟩ : ∃ n : Nat, i = n := ⟨i.toNat, by omega⟩
 exact shl_fit (by omega)
theorem zv6 {r : Rft} (h : Rgt r) (ht : r.hard.term < 1099511627776) (hn : r.reads = []) : Rgt (stdR r) := by
 have hd := zd2 (zac (std0 r)) h.id
 have hid := h.id
 have hT := (za2 h.hard).1.t
 refine ⟨zjw h.hard (by omega) (by omega), h.id, h.com, by show (0 : Int) ≤ 2 ∧ (2 : Int) ≤ 3; decide, by show (-1 : Int) ≤ -1 ∧ (-1 : Int) < 7; decide, ⟨hd.1, Int.le_trans hd.2 (by decide)⟩, h.quiet, h.round, zhb h.id, h.next, h.mtch, h.silent, zhm hn, fun e => absurd e (by show ¬ (2 : Int) = 3; decide)⟩
theorem zew {r : Rft} (h : Rgt r) (hn : r.role ≠ 3) : r.reads = [] := by
 obtain ⟨_, q2, _⟩ := znj h.reads
 apply Classical.byContradiction
 intro hne
 exact hn (q2 (List.length_pos_iff.2 hne))
theorem zl7 {r : Rft} (h : Rgt r) : Rgt (tq r) := ⟨h.hard, h.id, h.com, h.role, h.lead, h.wait, zio (by have := h.quiet; omega), h.round, h.votes, h.next, h.mtch, h.silent, h.reads, h.own⟩
theorem zzg {r : Rft} (h : Rgt r) : Rgt (tw r) := ⟨h.hard, h.id, h.com, h.role, h.lead, by
 have := h.wait
 show 0 ≤ zeroM (r.wait - 1) ∧ zeroM (r.wait - 1) ≤ 100
 unfold zeroM
 split <;> omega, (zl7 h).quiet, h.round, h.votes, h.next, h.mtch, h.silent, h.reads, h.own⟩
theorem zre {r : Rft} (h : Rgt r) (hn : r.role ≠ 3) : Rgt (taR r) := by
 have hd := zd2 (zac (ta r)) h.id
 exact ⟨h.hard, h.id, h.com, by show (0 : Int) ≤ 1 ∧ (1 : Int) ≤ 3; decide, by show (-1 : Int) ≤ -1 ∧ (-1 : Int) < 7; decide, ⟨hd.1, Int.le_trans hd.2 (by decide)⟩, (zl7 h).quiet, h.round, zhb h.id, h.next, h.mtch, h.silent, zhm (show r.reads = [] from zew h hn), fun e => absurd e (by show ¬ (1 : Int) = 3; decide)⟩
theorem zv9 {a b : Int} (ha : 0 ≤ a ∧ a ≤ 127) (hb : 0 ≤ b ∧ b ≤ 127) : 0 ≤ bor a b ∧ bor a b ≤ 127 := zmx ha hb
theorem z0t {r : Rft} (h : Rgt r) {m : Mg} (hf : 0 ≤ m.frm ∧ m.frm < 7) : Rgt (vtR r m) := ⟨h.hard, h.id, h.com, h.role, h.lead, h.wait, h.quiet, h.round, zv9 h.votes (zhb hf), h.next, h.mtch, h.silent, h.reads, h.own⟩
theorem zju {r : Rft} (h : Rgt r) {m : Mg} (hf : 0 ≤ m.frm ∧ m.frm < 7) {H : Hrd} {c : Int} (hh : hardB H = true) (ht : H.term = r.hard.term) (hc : H.base ≤ c ∧ c ≤ lastI H) : Rgt (folR (setH r H c) m) := by
 have hT := (za2 hh).1.t
 have hd := zd2 (zac (setH r H c)) h.id
 have hz : ∀ i, i < 7 → 0 ≤ zA.at i ∧ zA.at i ≤ 1099511627776 := zh7 (by decide)
 have hb := (za2 hh).1.b
 have e := zhe (setH r H c) m
 refine ⟨by rw [e]; exact hh, h.id, by rw [e]; exact hc, by show (0 : Int) ≤ 0 ∧ (0 : Int) ≤ 3; decide, by show -1 ≤ m.frm ∧ m.frm < 7; omega, ⟨hd.1, Int.le_trans hd.2 (by decide)⟩, by show (0 : Int) ≤ 0 ∧ (0 : Int) ≤ 1099511627776; decide, h.round, by show (0 : Int) ≤ 0 ∧ (0 : Int) ≤ 127; decide, hz, by rw [e]; exact zh7 (by show 0 ≤ lastI H; omega), hz, zhm rfl, fun e => absurd e (by show ¬ (0 : Int) = 3; decide)⟩
theorem zk3 {h : Hrd} {c : Int} {m : Mg} (hl : h.log.length ≤ 4294000) (e : growE h c m = 0) : hardB (growO h c m).h = true ∧ (growO h c m).h.term = h.term := by
 obtain ⟨h1, h2⟩ := zf9 e
 cases hf : fits h (gP h m) (gT h m) with
 | false => rw [(zij h1 h2 hf).2]; exact ⟨h1, rfl⟩
 | true =>
  obtain ⟨n, k⟩ := zp7 (by omega) e hf
  have hr := k.ko.right
  rw [k.ko.log] at hr
  rw [k.out]
  exact ⟨hr, rfl⟩
theorem zt8 {r : Rft} (h : Rgt r) {m : Mg} (hf : 0 ≤ m.frm ∧ m.frm < 7) (hl : r.hard.log.length ≤ 4294000) (he : appE r m = 0) : Rgt (appR r m) := by
 unfold appE at he
 unfold appR
 split
 ·exact h
 ·rename_i hr
  rw [if_neg hr] at he
  rw [if_pos he]
  obtain ⟨g1, g2⟩ := zk3 hl he
  obtain ⟨q1, q2, _⟩ := zh9 hl he
  have hc := h.com
  exact zju h hf g1 g2 ⟨by rw [zm6 he]; omega, q2⟩
theorem zst {h : Hrd} {i t : Int} {c : Conf} {s : List Int} (hl : h.log.length ≤ 4294967) (e : instE h i t c s = 0) : hardB (instH h i t c s) = true ∧ (instH h i t c s).term = h.term := by
 obtain ⟨hh, h1, hc, hs⟩ := zxi e
 have hb := (za2 hh).1.b
 refine ⟨?_, rfl⟩
 cases hf : fits h i t with
 | true =>
  obtain ⟨q, hq⟩ : ∃ q : Nat, i = h.base + q := ⟨(i - h.base).toNat, by omega⟩
  have hin := zka (a := h) (i := i) (t := t) (by omega) hf h1.1.1
  rw [zm4 hq (by omega) hf]
  exact zqt hh (by omega) (by omega) (by omega) hc (by omega)
 | false =>
  have := zz1 hh h1 hc (s := s) (by omega)
  unfold instH
  rw [hf, if_neg (by decide)]
  exact this
theorem zwf {r : Rft} (h : Rgt r) {m : Mg} (hf : 0 ≤ m.frm ∧ m.frm < 7) (hl : r.hard.log.length ≤ 4294000) (hi : 0 ≤ m.index ∧ m.index ≤ 1099511627776) (he : insE r m = 0) : Rgt (insR r m) := by
 unfold insE at he
 unfold insR
 split
 ·exact h
 ·rename_i hr
  rw [if_neg hr] at he
  split
  ·rename_i hlt
   rw [if_pos hlt] at he
   rw [if_pos he]
   obtain ⟨g1, g2⟩ := zst (by omega) he
   refine zju h hf g1 g2 ⟨Int.le_refl _, ?_⟩
   have hl2 : (insHH r m).log.length ≤ r.hard.log.length := zh2 r.hard m.index m.logTerm m.conf m.snap
   rw [zbe (h := insHH r m) (by show 0 ≤ m.index; omega) (by show m.index + (((insHH r m).log.length : Nat) : Int) < _; omega)]
   show m.index ≤ m.index + _
   omega
  ·exact zju (H := r.hard) (c := r.commit) h hf h.hard rfl h.com
theorem zwq {r : Rft} (h : Rgt r) {m : Mg} (hf : 0 ≤ m.frm ∧ m.frm < 7) (hl : r.hard.log.length ≤ 4294000) (hi : 0 ≤ m.index ∧ m.index ≤ 1099511627776) (hla : lastI r.hard < 1099511627776) : Rgt (zck r m) := by
 unfold zck
 split
 ·rename_i hro
  have hmx := h.mtch m.frm.toNat (by omega)
  have hnx := h.next m.frm.toNat (by omega)
  have hc := h.com
  have hb := (za2 h.hard).1.b
  have hI : 0 ≤ lrnI r m ∧ lrnI r m ≤ lastI r.hard := by unfold lrnI; split <;> omega
  have hmm : ∀ i, i < 7 → 0 ≤ (lrnMt r m).at i ∧ (lrnMt r m).at i ≤ lastI r.hard := zkf h.mtch (by
   unfold nxM
   split <;> omega)
  have hnn : ∀ i, i < 7 → 0 ≤ (lrnNx r m).at i ∧ (lrnNx r m).at i ≤ 1099511627776 := zkf h.next (by
   unfold nxN
   split <;> omega)
  have hcf := zk7 h.hard (by omega) (c := r.commit) (lrnMt r m) hc
  obtain ⟨q1, q2, q3⟩ := znj h.reads
  refine ⟨h.hard, h.id, ⟨Int.le_trans hc.1 hcf.1, hcf.2⟩, h.role, h.lead, h.wait, h.quiet, h.round, h.votes, hnn, hmm, zkf h.silent (by omega), zmk (by show (r.reads.map _).length ≤ 4; rw [List.length_map]; exact q1) (fun _ => hro) fun y hy => ?_, h.own⟩
  obtain ⟨x, hx, rfl⟩ := List.mem_map.1 hy
  have hx := zwg hcf.1 (q3 x hx)
  unfold ack1
  split
  ·unfold rdB at hx ⊢
   simp only [Bool.and_eq_true] at hx ⊢
   exact ⟨hx.1, hx.2.1, hx.2.2.1, zch (zv9 (zc5 hx.2.2.2) (zhb hf))⟩
  ·exact hx
 ·exact h
end Go.Proofs
