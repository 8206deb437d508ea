import Derived.Test.YtbhfokahocgndabGreatC1
import Derived.Test.YtbhfokahocgndabGreatH9
import Derived.Test.YtbhfokahocgndabGreatY3
import Derived.Test.YtbhfokahocgndabGreatC24
import Derived.Test.YtbhfokahocgndabGreatC47
import Derived.Test.YtbhfokahocgndabGreatC54
import Derived.Test.YtbhfokahocgndabGreatC13
/- Contracts of functions: a replica leads. -/
set_option linter.unusedSimpArgs false
set_option linter.unusedVariables false
namespace Go.Proofs
open Go.Pv
set_option maxRecDepth 100000
abbrev farM (n : Int) : Int := if 1099511627776 < n then 1099511627776 else n
abbrev allA (n : Int) : Arr := ⟨n, n, n, n, n, n, n⟩
abbrev led0 (r : Rft) : Rft := { r with role := 3, lead := r.id, votes := 0, reads := [], quiet := 0, round := farM (r.round + 1), mtch := zA, silent := zA }
noncomputable def leadR (r : Rft) : Rft := { addR (led0 r) (et r.hard.term) with next := allA (lastI (logR r (et r.hard.term))) }
theorem zru (r : Rft) : (leadR r).hard.log = r.hard.log ++ [et r.hard.term] := rfl
abbrev repX (x : Rft) (out : List (List PV)) : List PV := repV x (.sl 1 (x.hard.snap.map encB)) (.sl 16 (x.hard.log.map Ent.enc)) (.sl 13 (x.reads.map Rd.enc)) (.sl 16 out)
abbrev obX : List (Nat × Option (Bool × Nat × List (List PV))) := [(1000000, none), (1000001, none), (1000002, none), (1000003, none)]
structure Fit (r : Rft) : Prop where
 id : 0 ≤ r.id ∧ r.id < 7
 log : r.hard.log.length < 4294967
 snap : r.hard.snap.length ≤ 4294967296
 base : 0 ≤ r.hard.base ∧ r.hard.base ≤ 1099511627776
 term : 0 ≤ r.hard.term ∧ r.hard.term ≤ 1099511627776
 round : 0 ≤ r.round ∧ r.round ≤ 1099511627776
 quiet : 0 ≤ r.quiet ∧ r.quiet ≤ 1099511627776
 wait : 0 ≤ r.wait ∧ r.wait ≤ 1099511627776
 next : ∀ i, i < 7 → 0 ≤ r.next.at i ∧ r.next.at i ≤ 1099511627776
 silent : ∀ i, i < 7 → 0 ≤ r.silent.at i ∧ r.silent.at i ≤ 1099511627776
 reads : r.reads.length ≤ 1000
abbrev std0 (r : Rft) : Rft := { r with hard := { r.hard with term := r.hard.term + 1, vote := r.id }, role := 2, votes := shl 1 r.id, lead := -1 }
noncomputable abbrev stdR (r : Rft) : Rft := { std0 r with wait := delay (zac (std0 r)) r.id }
noncomputable def zfr (r : Rft) : Rft := if r.hard.term = 1099511627776 then fallR r r.hard.term (-1) else if za0 (zac (stdR r)) (shl 1 r.id) = true then leadR (stdR r) else stdR r
noncomputable def zhh (r : Rft) : List (List PV) := if r.hard.term = 1099511627776 then [] else if za0 (zac (stdR r)) (shl 1 r.id) = true then (allL (leadR (stdR r))).map (zbc (leadR (stdR r))) else (votL (stdR r)).map (askM (stdR r) 3 (r.hard.term + 1))
theorem zoi (r : Rft) (t l : Int) : (fallR r t l).hard.snap = r.hard.snap := by unfold fallR; split <;> rfl
theorem zet (r : Rft) (t l : Int) : (fallR r t l).hard.log = r.hard.log := by unfold fallR; split <;> rfl
abbrev tq (r : Rft) : Rft := { r with quiet := farM (r.quiet + 1) }
abbrev zeroM (n : Int) : Int := if 0 > n then 0 else n
abbrev tw (r : Rft) : Rft := { tq r with wait := zeroM (r.wait - 1) }
abbrev ta (r : Rft) : Rft := { tw r with role := 1, lead := -1, votes := shl 1 r.id }
noncomputable abbrev taR (r : Rft) : Rft := { ta r with wait := delay (zac (ta r)) r.id }
noncomputable abbrev zc7 (r : Rft) : Bool := bitB (bor (zac r).full (zac r).wit) r.id
noncomputable def tickR (r : Rft) : Rft :=
 if zc7 r = false then tq r else if 0 < zeroM (r.wait - 1) then tw r else
 if za0 (zac (taR r)) (shl 1 r.id) = true then zfr (taR r) else taR r
noncomputable def tickO (r : Rft) : List (List PV) :=
 if zc7 r = false then [] else if 0 < zeroM (r.wait - 1) then [] else
 if za0 (zac (taR r)) (shl 1 r.id) = true then zhh (taR r) else if r.hard.term < 1099511627776 then (votL (taR r)).map (askM (taR r) 1 (r.hard.term + 1)) else []
theorem zd2 (c : Conf) {i : Int} (h : 0 ≤ i ∧ i < 7) : 0 ≤ delay c i ∧ delay c i ≤ 32 := by
 unfold delay
 have e1 : IntKind.i64.wrap (2 * i) = 2 * i := zai (by omega) (by omega)
 have e2 : IntKind.i64.wrap (7 + i) = 7 + i := zai (by omega) (by omega)
 have e3 : IntKind.i64.wrap (2 * (7 + i)) = 2 * (7 + i) := zai (by omega) (by omega)
 have e4 : IntKind.i64.wrap (6 + 2 * i) = 6 + 2 * i := zai (by omega) (by omega)
 have e5 : IntKind.i64.wrap (6 + 2 * (7 + i)) = 6 + 2 * (7 + i) := zai (by omega) (by omega)
 rw [e1, e2, e3, e4, e5]
 split
 ·omega
 ·split <;> omega
theorem zc5 {g x : Int} (h : inR g x = true) : 0 ≤ x ∧ x ≤ g := of_decide_eq_true h
theorem zpl {g : Int} {a : Arr} (h : arrR g a = true) : ∀ i, i < 7 → 0 ≤ a.at i ∧ a.at i ≤ g := by
 unfold arrR at h
 simp only [Bool.and_eq_true] at h
 obtain ⟨h0, h1, h2, h3, h4, h5, h6⟩ := h
 intro i hi
 rcases (by omega : i = 0 ∨ i = 1 ∨ i = 2 ∨ i = 3 ∨ i = 4 ∨ i = 5 ∨ i = 6) with rfl | rfl | rfl | rfl | rfl | rfl | rfl
 ·exact zc5 h0
 ·exact zc5 h1
 ·exact zc5 h2
 ·exact zc5 h3
 ·exact zc5 h4
 ·exact zc5 h5
 ·exact zc5 h6
structure Rgt (r : Rft) : Prop where
 hard : hardB r.hard = true
 id : 0 ≤ r.id ∧ r.id < 7
 com : r.hard.base ≤ r.commit ∧ r.commit ≤ lastI r.hard
 role : 0 ≤ r.role ∧ r.role ≤ 3
 lead : -1 ≤ r.lead ∧ r.lead < 7
 wait : 0 ≤ r.wait ∧ r.wait ≤ 100
 quiet : 0 ≤ r.quiet ∧ r.quiet ≤ 1099511627776
 round : 0 ≤ r.round ∧ r.round ≤ 1099511627776
 votes : 0 ≤ r.votes ∧ r.votes ≤ 127
 next : ∀ i, i < 7 → 0 ≤ r.next.at i ∧ r.next.at i ≤ 1099511627776
 mtch : ∀ i, i < 7 → 0 ≤ r.mtch.at i ∧ r.mtch.at i ≤ lastI r.hard
 silent : ∀ i, i < 7 → 0 ≤ r.silent.at i ∧ r.silent.at i ≤ 1099511627776
 reads : rdsB r = true
 own : r.role = 3 → r.lead = r.id
theorem zn7 {r : Rft} (h : ze7 r = true) : Rgt r := by
 unfold ze7 at h
 simp only [Bool.and_eq_true, decide_eq_true_eq] at h
 obtain ⟨h1, h2, h3, h4, h5, h6, h7, h8, ⟨h9, h10⟩, h11, h12, h13, h14, h15, h16⟩ := h
 have h2 := zc5 h2
 exact ⟨h1, by omega, ⟨h3, h4⟩, zc5 h5, ⟨h6, h7⟩, zc5 h8, zc5 h9, zc5 h10, zc5 h11, zpl h12, zpl h13, zpl h14, h15, fun e => by rw [if_pos e] at h16; exact of_decide_eq_true h16⟩
theorem Rgt.fit {r : Rft} (h : Rgt r) (hm : r.hard.log.length < 4294967) : Fit r := by
 have hA := za2 h.hard
 refine ⟨h.id, hm, ?_, hA.1.b, hA.1.t, h.round, h.quiet, ⟨h.wait.1, by have := h.wait.2; omega⟩, h.next, h.silent, ?_⟩
 ·have := h.hard
  unfold hardB at this
  simp only [Bool.and_eq_true, decide_eq_true_eq] at this
  omega
 ·have := h.reads
  unfold rdsB at this
  split at this
  ·cases this
  ·omega
noncomputable abbrev rNew0 (id : Int) (h : Hrd) : Rft := ⟨id, h, h.base, 0, -1, 0, 0, 0, 0, zA, zA, zA, []⟩
noncomputable abbrev newR (id : Int) (h : Hrd) : Rft := { rNew0 id h with wait := delay (zac (rNew0 id h)) id }
noncomputable def zlt (r : Rft) (m : Mg) : List (List PV) := if asked r m = true then [msgV 2 r.id m.frm m.term 0 0 0 0 true .nl cz .nl] else [msgV 2 r.id m.frm r.hard.term 0 0 0 0 false .nl cz .nl]
noncomputable def zj2 (r : Rft) (m : Mg) : List (List PV) := if m.kind = 3 then [msgV 4 r.id m.frm r.hard.term 0 0 0 0 false .nl cz .nl] else if m.kind = 5 ∨ m.kind = 7 then [msgV 6 r.id m.frm r.hard.term 0 0 0 0 false .nl cz .nl] else []
noncomputable abbrev folR (r : Rft) (m : Mg) : Rft := { fallR r r.hard.term m.frm with quiet := 0 }
noncomputable abbrev folM (r : Rft) (m : Mg) (ix : Int) (y : Bool) : List PV := msgV 6 (folR r m).id m.frm (folR r m).hard.term ix 0 0 m.round y .nl cz .nl
theorem zd3 (r : Rft) (l : Int) : (fallR r r.hard.term l).hard = r.hard := by unfold fallR; rw [if_neg (by omega)]
abbrev setH (r : Rft) (h : Hrd) (c : Int) : Rft := { r with hard := h, commit := c }
noncomputable def appE (r : Rft) (m : Mg) : Int := if r.role = 3 then 0 else growE r.hard r.commit m
noncomputable def appR (r : Rft) (m : Mg) : Rft := if r.role = 3 then r else if growE r.hard r.commit m = 0 then folR (setH r (growO r.hard r.commit m).h (growO r.hard r.commit m).c) m else r
noncomputable def appO (r : Rft) (m : Mg) : List (List PV) := if r.role = 3 then [] else if growE r.hard r.commit m = 0 then [folM (setH r (growO r.hard r.commit m).h (growO r.hard r.commit m).c) m (growO r.hard r.commit m).i (growO r.hard r.commit m).yes] else []
noncomputable abbrev insEE (r : Rft) (m : Mg) : Int := instE r.hard m.index m.logTerm m.conf m.snap
noncomputable abbrev insHH (r : Rft) (m : Mg) : Hrd := instH r.hard m.index m.logTerm m.conf m.snap
noncomputable def insE (r : Rft) (m : Mg) : Int := if r.role = 3 then 0 else if r.commit < m.index then insEE r m else 0
noncomputable def insR (r : Rft) (m : Mg) : Rft := if r.role = 3 then r else if r.commit < m.index then (if insEE r m = 0 then folR (setH r (insHH r m) m.index) m else r) else folR r m
noncomputable def insO (r : Rft) (m : Mg) : List (List PV) := if r.role = 3 then [] else if r.commit < m.index then (if insEE r m = 0 then [folM (setH r (insHH r m) m.index) m m.index true] else []) else [folM r m r.commit true]
abbrev lrnI (r : Rft) (m : Mg) : Int := if lastI r.hard < m.index then lastI r.hard else m.index
abbrev lrnNx (r : Rft) (m : Mg) : Arr := r.next.put m.frm.toNat (nxN (r.next.at m.frm.toNat) (r.mtch.at m.frm.toNat) m.yes (lrnI r m))
abbrev lrnMt (r : Rft) (m : Mg) : Arr := r.mtch.put m.frm.toNat (nxM (r.mtch.at m.frm.toNat) m.yes (lrnI r m))
noncomputable def zck (r : Rft) (m : Mg) : Rft := if r.role = 3 then { r with silent := r.silent.put m.frm.toNat 0, next := lrnNx r m, mtch := lrnMt r m, reads := r.reads.map (ack1 m.frm m.round), commit := zdt r.hard r.commit (lrnMt r m) } else r
abbrev mkM (m : Mg) (k : Int) : Mg := { m with kind := k }
abbrev mkY (m : Mg) (k : Int) (y : Bool) : Mg := { m with kind := k, yes := y }
noncomputable abbrev vtR (x : Rft) (m : Mg) : Rft := { x with votes := bor x.votes (shl 1 m.frm) }
noncomputable def k2R (x : Rft) (m : Mg) : Rft := if x.role = 1 then (if m.term = x.hard.term + 1 then (if za0 (zac (vtR x m)) (vtR x m).votes = true then zfr (vtR x m) else vtR x m) else x) else x
noncomputable def k2O (x : Rft) (m : Mg) : List (List PV) := if x.role = 1 then (if m.term = x.hard.term + 1 then (if za0 (zac (vtR x m)) (vtR x m).votes = true then zhh (vtR x m) else []) else []) else []
abbrev vdR (x : Rft) (m : Mg) : Rft := { x with hard := { x.hard with vote := m.frm } }
noncomputable def k3R (x : Rft) (m : Mg) : Rft := if voted x m = true then fallR (vdR x m) x.hard.term (-1) else x
noncomputable def k3O (x : Rft) (m : Mg) : List (List PV) := if voted x m = true then [msgV 4 (fallR (vdR x m) x.hard.term (-1)).id m.frm (fallR (vdR x m) x.hard.term (-1)).hard.term 0 0 0 0 true .nl cz .nl] else [msgV 4 x.id m.frm x.hard.term 0 0 0 0 false .nl cz .nl]
noncomputable def k4R (x : Rft) (m : Mg) : Rft := if x.role = 2 then (if za0 (zac (vtR x m)) (vtR x m).votes = true then leadR (vtR x m) else vtR x m) else x
noncomputable def k4O (x : Rft) (m : Mg) : List (List PV) := if x.role = 2 then (if za0 (zac (vtR x m)) (vtR x m).votes = true then (allL (leadR (vtR x m))).map (zbc (leadR (vtR x m))) else []) else []
noncomputable def k8R (x : Rft) (m : Mg) : Rft := if zc7 x = true then (if x.lead = m.frm then zfr x else x) else x
noncomputable def k8O (x : Rft) (m : Mg) : List (List PV) := if zc7 x = true then (if x.lead = m.frm then zhh x else []) else []
theorem zdl {r : Rft} (hf : Fit r) {t : Int} (ht : r.hard.term ≤ t ∧ t ≤ 1099511627776) (l : Int) : Fit (fallR r t l) := by
 have hd := zd2 (zac r) hf.id
 have hT := hf.term
 have hz : ∀ i, i < 7 → 0 ≤ zA.at i ∧ zA.at i ≤ 1099511627776 := by
  intro i hi
  rcases (by omega : i = 0 ∨ i = 1 ∨ i = 2 ∨ i = 3 ∨ i = 4 ∨ i = 5 ∨ i = 6) with rfl | rfl | rfl | rfl | rfl | rfl | rfl <;> decide
 refine ⟨hf.id, by rw [zet]; exact hf.log, by rw [zoi]; exact hf.snap, ?_, ?_, hf.round, hf.quiet, ⟨hd.1, Int.le_trans hd.2 (by decide)⟩, hz, hz, Nat.zero_le _⟩
 ·have : (fallR r t l).hard.base = r.hard.base := by unfold fallR; split <;> rfl
  rw [this]; exact hf.base
 ·unfold fallR
  split
  ·show 0 ≤ t ∧ t ≤ 1099511627776; omega
  ·exact hT
theorem zcl {r : Rft} {t : Int} (ht : r.hard.term < t) (l : Int) : (fallR r t l).hard.term = t := by unfold fallR; rw [if_pos ht]
end Go.Proofs
