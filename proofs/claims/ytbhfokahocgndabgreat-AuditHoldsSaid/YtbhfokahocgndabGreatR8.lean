import Derived.Test.YtbhfokahocgndabGreatR6
import Derived.Test.YtbhfokahocgndabGreatU9
import Derived.Test.YtbhfokahocgndabGreatU10
import Derived.Test.YtbhfokahocgndabGreatU12
import Derived.Test.YtbhfokahocgndabGreatU13
import Derived.Test.YtbhfokahocgndabGreatU14
import Derived.Test.YtbhfokahocgndabGreatU16
import Derived.Test.YtbhfokahocgndabGreatU17
import Derived.Test.YtbhfokahocgndabGreatY7
import Derived.Test.YtbhfokahocgndabGreatC24
import Derived.Test.YtbhfokahocgndabGreatH8
/- An act of a play: there is a step that it is. -/
set_option linter.unusedSimpArgs false
set_option linter.unusedVariables false
namespace Go.Proofs
open Go.Pv
set_option maxRecDepth 100000
theorem zxx (r : Rft) (hf : Fit r) : Ctr Tryz.prog 33 [.ag r.enc] (.tu [.ag (tkR r).enc, .sl 16 (tkO r)]) [] := by
 unfold tkR tkO
 by_cases h : r.role = 3
 ·rw [if_pos h, if_pos h]; exact zyi r hf h
 ·rw [if_neg h, if_neg h]; exact c_zTick r hf h
theorem zpr {r : Rft} {m : Mg} (h : zjv r m = true) : (0 ≤ m.logTerm ∧ m.logTerm ≤ far) ∧ (0 ≤ m.round ∧ m.round ≤ far) := by
 unfold zjv at h
 simp only [Bool.and_eq_true, decide_eq_true_eq] at h
 obtain ⟨_, _, _, _, _, ⟨_, h7⟩, _, h8⟩ := h
 exact ⟨zc5 h7, zc5 h8⟩
theorem act_ex (r : Rft) (a : Act) (c : Conf) {kd : Int} (hk : 12 ≤ kd ∧ kd ≤ 16) : ∃ R, ActE r a c kd R := by
 rcases (by omega : kd = 12 ∨ kd = 13 ∨ kd = 14 ∨ kd = 15 ∨ kd = 16) with rfl | rfl | rfl | rfl | rfl
 ·by_cases h : propE r a.call = 0
  ·exact ⟨_, .inl (.prop h)⟩
  ·exact ⟨_, .inr ⟨.prop h, rfl⟩⟩
 ·by_cases h : chgE r c = 0
  ·exact ⟨_, .inl (.chg h)⟩
  ·exact ⟨_, .inr ⟨.chg h, rfl⟩⟩
 ·by_cases h : askE r a.call = 0
  ·exact ⟨_, .inl (.ask h)⟩
  ·exact ⟨_, .inr ⟨.ask h, rfl⟩⟩
 ·exact ⟨_, .inl .ready⟩
 ·by_cases h : compE r.hard r.commit (byteL a.n) = 0
  ·exact ⟨_, .inl (.comp h)⟩
  ·exact ⟨_, .inr ⟨.comp h, rfl⟩⟩
theorem do_ex {n : Nat} {s : Svn} {ms : List My} (h : Ply n s ms) (hn : n ≤ 199) (a : Act) : ∃ s' ms', Step n s ms a s' ms' ∧ DoC s ms a s' ms' := by
 obtain ⟨k, hk, hki0⟩ := zi9 a.i (m := 7) (by decide) (by decide)
 have hki : IntKind.i64.wrap ((IntKind.u64.wrap a.i).tmod 7) = (k : Int) := by
  rw [← hki0, zb1 (n := ((7 : Nat) : Int)) (by omega) (by omega)]; rfl
 have g0 := zen a.doo
 have b1 := Int.emod_nonneg (IntKind.u64.wrap a.doo) (show (18 : Int) ≠ 0 by decide)
 have b2 := Int.emod_lt_of_pos (IntKind.u64.wrap a.doo) (show (0 : Int) < 18 by decide)
 rw [← Int.tmod_eq_emod_of_nonneg g0] at b1 b2
 generalize hd : (IntKind.u64.wrap a.doo).tmod 18 = kd at *
 have hr := h.rp k hk
 have hlg := hr.log
 have hf := hr.rgt.fit (show (s.at k).hard.log.length < 4294967 by omega)
 have hsm := hr.small (by omega)
 have hlen := h.len
 have hM : (ms.map My.enc).length ≤ 100 := by rw [List.length_map]; exact hlen
 have hnone : ms = [] → 4 ≤ kd ∧ kd ≤ 11 → ∃ s' ms', Step n s ms a s' ms' ∧ DoC s ms a s' ms' := fun e hkd => by
  refine ⟨s, ms, .none, .same rfl ?_⟩
  exact zvx s (ms.map My.enc) hM a k hk hki kd hd hsm (by rw [e]; rfl) hkd
 rcases (by omega : kd < 4 ∨ (4 ≤ kd ∧ kd < 10) ∨ kd = 10 ∨ kd = 11 ∨ (12 ≤ kd ∧ kd ≤ 16) ∨ kd = 17) with hc | hc | hc | hc | hc | hc
 ·have g := tk_stp hr.id' hn
  obtain ⟨L, e2, hL, _⟩ := g.rows
  have kz := zxx (s.at k) hf
  rw [e2] at kz
  refine ⟨_, _, .tick k hk L e2, .lost ?_⟩
  rw [← zmt]
  exact zt7 s (ms.map My.enc) hM a k hk hki kd hd hsm ⟨b1, hc⟩ (tkR (s.at k)) L kz
 ·by_cases e : ms = []
  ·exact hnone e ⟨hc.1, by omega⟩
  ·obtain ⟨j, hj, hdr⟩ := zi9 a.n (m := ms.length) (List.length_pos_iff.2 e) (by omega)
   have hy := h.my _ (List.getElem_mem hj)
   obtain ⟨t, ht⟩ : ∃ t : Nat, (ms[j]'hj).to = t := ⟨(ms[j]'hj).to.toNat, by have := hy.tor; omega⟩
   have ht7 : t < 7 := by have := hy.tor; omega
   have hrt := h.rp t ht7
   have hlt := hrt.log
   have hft := hrt.rgt.fit (show (s.at t).hard.log.length < 4294967 by omega)
   have hst := hrt.small (by omega)
   cases hm : zjv (s.at t) (ms[j]'hj).mg with
   | false =>
    have kz := zqb (s.at t) (ms[j]'hj).mg hm
    exact ⟨_, _, .lose j, .kept (zkh s ms hlen a k hk hki kd hd hsm j hj hdr _ rfl hc t ht7 ht hst 1 (by decide) kz)⟩
   | true =>
    have hMg := zt9 hm
    obtain ⟨hL, hR⟩ := zpr hm
    obtain ⟨R, O, E, hk2⟩ := tk_ex (s.at t) (ms[j]'hj).mg hMg.kind
    have hes := hy.es
    have hsn := hy.sn
    have kz := ztv (s.at t) (ms[j]'hj).mg hrt.rgt (by omega) hMg hL hR (by show (ms[j]'hj).bd.ents.length ≤ 1000; omega) (by show (ms[j]'hj).bd.snp.length ≤ 40000; omega) hk2
    by_cases hE : E = 0
    ·subst hE
     rw [zcd] at kz
     have g := zsa hrt.id' hn hMg hsn hy.ix hk2 rfl
     obtain ⟨L, e2, _, _⟩ := g.rows
     rw [e2] at kz hk2
     refine ⟨_, _, .take j hj t ht7 ht hMg R L hk2, .kept ?_⟩
     rw [← zmt]
     exact zw1 s ms hlen a k hk hki kd hd hsm j hj hdr _ rfl hc t ht7 ht hst R L kz
    ·rw [zjg _ _ hE] at kz
     exact ⟨_, _, .lose j, .kept (zkh s ms hlen a k hk hki kd hd hsm j hj hdr _ rfl hc t ht7 ht hst E hE kz)⟩
 ·by_cases e : ms = []
  ·exact hnone e (by omega)
  ·obtain ⟨j, hj, hdr⟩ := zi9 a.n (m := ms.length) (List.length_pos_iff.2 e) (by omega)
   exact ⟨_, _, .lose j, .kept (zuf s ms hlen a k hk hki kd hd hsm j hj hdr _ rfl hc)⟩
 ·by_cases e : ms = []
  ·exact hnone e (by omega)
  ·obtain ⟨j, hj, hdr⟩ := zi9 a.n (m := ms.length) (List.length_pos_iff.2 e) (by omega)
   refine ⟨_, _, .double j hj, .lost ?_⟩
   rw [← zmt]
   exact zpz s ms hlen a k hk hki kd hd hsm j hj hdr _ rfl hc
 ·have hA := za2 hr.rgt.hard
  have hla := hr.last (by omega)
  have hbn := hr.base
  have hcm := hr.rgt.com
  have hb := hA.1.b
  have hck : Cok (zac (s.at k)) := by
   refine (zcf _).1 ?_
   exact zl6 hA.2.1 hA.2.2.2 _ _ (Nat.le_refl _)
  obtain ⟨c, kn⟩ := zx6 (s.at k) a (zag (by omega)) hck
  obtain ⟨R, hE⟩ := act_ex (s.at k) a c hc
  have hI : isI (s.at k).commit ∧ isI (s.at k).hard.base := ⟨by unfold isI; omega, by unfold isI; omega⟩
  have hrd : (s.at k).reads.length ≤ 4294967 := by have := hf.reads; omega
  have ka := c_ask18 s (ms.map My.enc) a (k : Int) ⟨by omega, by omega⟩ (s.at k) kd hd hc hf.log hsm (zy9 hr.rgt) hI hrd kn hE
  exact ⟨_, _, .act k hk c kd R hE hd, .same rfl (zzt s (ms.map My.enc) hM a k hk hki kd hd hsm hc R ka)⟩
 ·exact ⟨_, _, .crash k hk, .same rfl (ztq s (ms.map My.enc) hM a k hk hki kd hd hsm hc)⟩
structure Gd (r S : Rft) (ys : List My) : Prop where
 up : Up r S
 rgt : Rgt S
 log : S.hard.log.length ≤ 4000
 sent : ∀ y ∈ ys, y.frm = r.id ∧ y.to ≠ r.id ∧ (y.kind ≠ 1 → y.kind ≠ 2 → y.term = S.hard.term)
theorem beg_ply {c : Conf} (hc : confB c = true) : Ply 0 (begS c 7) [] := by
 refine ⟨fun k hk => ?_, fun y hy => absurd hy List.not_mem_nil, Nat.zero_le _⟩
 have hh : hardB (begH c) = true := by
  unfold hardB
  rw [zbm (show HardA (begH c) from ⟨by show (0 : Int) ≤ 0 ∧ (0 : Int) ≤ _; decide, by show (-1 : Int) ≤ -1 ∧ (-1 : Int) ≤ 6; decide, by show (0 : Int) ≤ 0 ∧ (0 : Int) ≤ _; decide, by show (0 : Int) ≤ 0 ∧ (0 : Int) ≤ 0; decide, by show (0 : Int) = 0 ↔ (0 : Int) = 0; decide⟩), show confB (begH c).baseConf = true from hc]
  rfl
 have h0 := fun (i : Int) (hi : 0 ≤ i ∧ i < 7) => new_rp (n := 0) (i := i) hh hi (Nat.zero_le _) (by decide) (by show (0 : Int) ≤ _; decide) (Nat.zero_le _)
 rcases (by omega : k = 0 ∨ k = 1 ∨ k = 2 ∨ k = 3 ∨ k = 4 ∨ k = 5 ∨ k = 6) with rfl | rfl | rfl | rfl | rfl | rfl | rfl
 ·exact h0 0 (by decide)
 ·exact h0 1 (by decide)
 ·exact h0 2 (by decide)
 ·exact h0 3 (by decide)
 ·exact h0 4 (by decide)
 ·exact h0 5 (by decide)
 ·exact h0 6 (by decide)
theorem HG.ent {c0 : Conf} {h : Hrd} {b : Nat} {G : List Ent} (k : HG c0 h b G) {i : Int} (h1 : h.base < i) (h2 : i ≤ h.base + h.log.length) : ∃ x, entAt h i = some x ∧ G[i.toNat - 1]? = some x := by
 have hb := k.base
 have hs := k.sum
 obtain ⟨x, hx⟩ := zci (A := G) (i := i.toNat - 1) (by omega)
 refine ⟨x, ?_, hx⟩
 rw [zfc (m := i.toNat - 1 - b) (by omega), k.log, List.getElem?_drop, show b + (i.toNat - 1 - b) = i.toNat - 1 by omega]
 exact hx
theorem zii {α : Type} {A C : List α} {i : Nat} {x y : α} (e : A.take (i + 1) = C.take (i + 1)) (hx : A[i]? = some x) (hy : C[i]? = some y) : x = y := by
 have := zb7 e (Nat.lt_succ_self i)
 rw [hx, hy] at this
 exact Option.some.inj this
theorem zx9 {H : Hist} {B : Nat} {N : Nat → Nd} {s : Svn} {ms : List My} (h : PS H B N s ms) {v w : Nat} (hv : v < 7) (hw : w < 7) (hne : v ≠ w) : leadF (s.at v) (s.at w) = true := by
 obtain ⟨b, G, _, hN, _⟩ := h.tie v hv
 obtain ⟨b', G', _, hN', _⟩ := h.tie w hw
 have n1 := h.gi.nd v hv
 have n2 := h.gi.nd w hw
 rw [hN] at n1
 rw [hN'] at n2
 unfold leadF
 rw [Bool.not_eq_true']
 apply Classical.byContradiction
 intro hc
 rw [Bool.not_eq_false, Bool.and_eq_true, Bool.and_eq_true, beq_iff_eq, beq_iff_eq, beq_iff_eq] at hc
 obtain ⟨⟨a1, a2⟩, a3⟩ := hc
 obtain ⟨_, _, ⟨D, Q, c1⟩, _⟩ := n1.ld a1
 obtain ⟨_, _, ⟨D', Q', c2⟩, _⟩ := n2.ld a2
 have c1 : Cand H (s.at v).hard.term v D Q := c1
 have c2 : Cand H (s.at w).hard.term w D' Q' := c2
 rw [a3] at c1
 exact hne (zmv h.gi.st c1 c2).1
theorem zyk {H : Hist} {B : Nat} {N : Nat → Nd} {s : Svn} {ms : List My} (h : PS H B N s ms) {v w : Nat} (hv : v < 7) (hw : w < 7) : zvp (s.at v) (s.at w) := by
 obtain ⟨b, G, _, hN, k⟩ := h.tie v hv
 obtain ⟨b', G', _, hN', k'⟩ := h.tie w hw
 have n1 := h.gi.nd v hv
 have n2 := h.gi.nd w hw
 rw [hN] at n1
 rw [hN'] at n2
 have m1 : LM H G := n1.lm
 have m2 : LM H G' := n2.lm
 intro _ _ i i1 i2 i3 i4 ⟨n, q1, q2, q3, q4⟩
 have hb := k.base
 obtain ⟨x, x1, x2⟩ := k.ent (i := i) i1 i3
 obtain ⟨y, y1, y2⟩ := k'.ent (i := i) i2 i4
 obtain ⟨p, p1, p2⟩ := k.ent (i := n) (by omega) q2
 obtain ⟨q, r1, r2⟩ := k'.ent (i := n) (by omega) q3
 have q4 : (entE (s.at v) n).term = (entE (s.at w) n).term := q4
 have e1 : entE (s.at v) n = p := by show (entAt (s.at v).hard n).getD ez = p; rw [p1]; rfl
 have e2 : entE (s.at w) n = q := by show (entAt (s.at w).hard n).getD ez = q; rw [r1]; rfl
 have e3 : entE (s.at v) i = x := by show (entAt (s.at v).hard i).getD ez = x; rw [x1]; rfl
 have e4 : entE (s.at w) i = y := by show (entAt (s.at w).hard i).getD ez = y; rw [y1]; rfl
 rw [e1, e2] at q4
 have e := LM.match m1 m2 _ p q p2 r2 q4
 rw [e3, e4, zii (za4 e (by omega)) x2 y2]
theorem zzn {H : Hist} {B : Nat} {N : Nat → Nd} {s : Svn} {ms : List My} (h : PS H B N s ms) {v w : Nat} (hv : v < 7) (hw : w < 7) : zp8 (zig (s.at v) (s.at w)) (s.at v) (s.at w) := by
 obtain ⟨b, G, _, hN, k⟩ := h.tie v hv
 obtain ⟨b', G', _, hN', k'⟩ := h.tie w hw
 have n1 := h.gi.nd v hv
 have n2 := h.gi.nd w hw
 rw [hN] at n1
 rw [hN'] at n2
 have j1 : JG H (s.at v).hard.term G (s.at v).commit.toNat := n1.com
 have j2 : JG H (s.at w).hard.term G' (s.at w).commit.toNat := n2.com
 intro _ _ i i1 i2 i3 i4
 unfold zig
 by_cases c1 : (s.at v).commit < i
 ·rw [decide_eq_true c1]; rfl
 ·by_cases c2 : (s.at w).commit < i
  ·rw [decide_eq_true c2, Bool.true_or, Bool.or_true]
  ·have hb := k.base
   obtain ⟨x, x1, x2⟩ := k.ent (i := i) i1 i3
   obtain ⟨y, y1, y2⟩ := k'.ent (i := i) i2 i4
   have e3 : entE (s.at v) i = x := by show (entAt (s.at v).hard i).getD ez = x; rw [x1]; rfl
   have e4 : entE (s.at w) i = y := by show (entAt (s.at w).hard i).getD ez = y; rw [y1]; rfl
   have e := j1.agree h.gi.st j2 (m := i.toNat - 1 + 1) (by omega) (by omega)
   have exy := zii e x2 y2
   rw [e3, e4, exy, decide_eq_true (rfl : y.nrm = y.nrm), Bool.or_true, Bool.or_true]
abbrev svl (s : Svn) : List Rft := [s.r0, s.r1, s.r2, s.r3, s.r4, s.r5, s.r6]
theorem zue (s : Svn) : ∀ j (hj : j < (svl s).length), (svl s)[j]'hj = s.at j := by
 intro j hj
 have hj2 : j < 7 := hj
 rcases (by omega : j = 0 ∨ j = 1 ∨ j = 2 ∨ j = 3 ∨ j = 4 ∨ j = 5 ∨ j = 6) with rfl | rfl | rfl | rfl | rfl | rfl | rfl <;> rfl
theorem zmo {f : Rft → Rft → Bool} {s : Svn} (h : ∀ v w, v < w → w < 7 → f (s.at v) (s.at w) = true) : zep f (svl s) := by
 intro i hi k hk
 have hi2 : i < 7 := hi
 rw [zue, zue]
 exact h k i hk hi2
theorem dec_of {p : Prop} (h : p) : dec p = true := zbm h
theorem z0s {H : Hist} {B : Nat} {N : Nat → Nd} {s : Svn} {ms : List My} (h : PS H B N s ms) : zep leadF (svl s) ∧ zep znm (svl s) ∧ zep znb (svl s) :=
 ⟨zmo fun v w hvw hw => zx9 h (by omega) hw (by omega), zmo fun v w hvw hw => dec_of (zyk h (by omega) hw), zmo fun v w hvw hw => dec_of (zzn h (by omega) hw)⟩
structure AI (H : Hist) (L : List Ent) (ts : List Int) : Prop where
 len : ts.length = L.length
 jg : ∀ n t, ts[n]? = some t → JG H t L (n + 1)
theorem AI.mono {H H' : Hist} (S : Static H) (g : Grows H H') {L : List Ent} {ts : List Int} (h : AI H L ts) : AI H' L ts := ⟨h.len, fun n t e => (h.jg n t e).mono S g (Int.le_refl _) rfl⟩
theorem AI.all {H : Hist} {L : List Ent} {ts : List Int} (h : AI H L ts) : ∃ t, JG H t L L.length := by
 by_cases e : L.length = 0
 ·exact ⟨0, .inl e⟩
 ·obtain ⟨t, ht⟩ := zci (A := ts) (i := L.length - 1) (by rw [h.len]; omega)
  have := h.jg _ t ht
  rw [show L.length - 1 + 1 = L.length by omega] at this
  exact ⟨t, this⟩
theorem AI.lm {H : Hist} (S : Static H) {L : List Ent} {ts : List Int} (h : AI H L ts) : LM H L := by
 intro n x hx
 obtain ⟨t, ht⟩ := zci (A := ts) (i := n) (by rw [h.len]; exact zbv hx)
 rcases h.jg n t ht with a | ⟨T, m, k, W, hc, hT, hm, e⟩
 ·omega
 ·have hx2 : (H.LL T)[n]? = some x := by rw [← zb7 e (Nat.lt_succ_self n)]; exact hx
  rw [e]
  exact S.llm T n x hx2
theorem lk_of {n : Nat} {i : Int} {r : Rft} (h : Rp n i r) (hn : n ≤ 200) : lkB r = true := by
 rw [ze6]
 have h1 := (za2 h.rgt.hard).1.b
 exact h1
theorem z0e {n : Nat} {H : Hist} {N : Nat → Nd} {s : Svn} {ms : List My} (h : PS H 0 N s ms) {v : Nat} (hv : v < 7) (hp : Rp n v (s.at v)) (hn : n ≤ 200) {L : List Ent} {ts : List Int} (A : AI H L ts) :
    mrgE L (s.at v) = 0 ∧ AI H (mrgO L (s.at v) (mrgJ L (s.at v))) (ts ++ List.replicate ((mrgO L (s.at v) (mrgJ L (s.at v))).length - L.length) (s.at v).hard.term) ∧ L.length ≤ (mrgO L (s.at v) (mrgJ L (s.at v))).length ∧ (mrgO L (s.at v) (mrgJ L (s.at v))).length ≤ max L.length 401600 := by
 obtain ⟨b, G, hb0, hN, k⟩ := h.tie v hv
 obtain rfl : b = 0 := by omega
 obtain ⟨hs, _⟩ := zia hp hn k
 have ni := h.gi.nd v hv
 rw [hN] at ni
 have jx : JG H (s.at v).hard.term G (s.at v).commit.toNat := ni.com
 have hcG := jx.len h.gi.st
 have hbase := k.base
 have hsum := k.sum
 have hlog := k.log
 rw [List.drop_zero] at hlog
 have hc0 := hp.rgt.com.1
 obtain ⟨tL, jL⟩ := A.all
 generalize s.at v = r at *
 have hE : mrgE L r = 0 := by
  unfold mrgE
  rw [if_pos (lk_of hp hn)]
  have hbad : ¬ zle L r = true := by
   intro hc
   unfold zle at hc
   obtain ⟨i, hi, y, hy, hyc, hne⟩ := zes.1 hc
   apply hne
   have hin := znt hy
   obtain ⟨z, z1, z2⟩ := k.ent (i := (i : Int) + 1) (by omega) (by omega)
   rw [hy] at z1
   obtain rfl := Option.some.inj z1
   have e := jL.agree h.gi.st jx (m := i + 1) (by omega) (by omega)
   rw [show ((i : Int) + 1).toNat - 1 = i by omega] at z2
   rw [zii e (List.getElem?_eq_getElem hi) z2]
  rw [if_neg hbad, if_neg (by omega)]
 refine ⟨hE, ?_⟩
 have e0 : ((L.length : Int) - r.hard.base).toNat = L.length := by omega
 by_cases hc : r.commit.toNat ≤ L.length
 ·have ej : mrgJ L r = 0 := by
    unfold mrgJ
    rw [show (r.commit - (L.length : Int)).toNat = 0 by omega, Nat.min_zero]
  have eo : mrgO L r (mrgJ L r) = L := by
   unfold mrgO
   rw [ej, List.take_zero, List.append_nil]
  rw [eo, Nat.sub_self]
  refine ⟨?_, Nat.le_refl _, by omega⟩
  show AI H L (ts ++ [])
  rw [List.append_nil]; exact A
 ·have ej : mrgJ L r = r.commit.toNat - L.length := by
    unfold mrgJ
    rw [e0, hlog]
    omega
  have eL : L = G.take L.length := by
   have e := jL.agree h.gi.st jx (m := L.length) (Nat.le_refl _) (by omega)
   rw [List.take_length] at e
   exact e
  have eo : mrgO L r (mrgJ L r) = G.take r.commit.toNat := by
   unfold mrgO
   rw [ej, e0, hlog]
   conv => lhs; lhs; rw [eL]
   rw [← List.take_add, show L.length + (r.commit.toNat - L.length) = r.commit.toNat by omega]
  have elen : (G.take r.commit.toNat).length = r.commit.toNat := by rw [List.length_take]; omega
  rw [eo, elen]
  refine ⟨⟨?_, fun j t ht => ?_⟩, by omega, by omega⟩
  ·rw [List.length_append, List.length_replicate, A.len, elen]; omega
  ·by_cases hj : j < L.length
   ·rw [List.getElem?_append_left (by rw [A.len]; exact hj)] at ht
    refine (A.jg j t ht).mono h.gi.st (Grows.refl H) (Int.le_refl _) ?_
    rw [List.take_take, Nat.min_eq_left (by omega)]
    conv => rhs; rw [eL]
    rw [List.take_take, Nat.min_eq_left (by omega)]
   ·rw [List.getElem?_append_right (by rw [A.len]; omega), A.len] at ht
    have hl := zbv ht
    rw [List.length_replicate] at hl
    rw [List.getElem?_replicate, if_pos hl] at ht
    obtain rfl := Option.some.inj ht
    refine (jx.le (d := j + 1) (by omega)).mono h.gi.st (Grows.refl H) (Int.le_refl _) ?_
    rw [List.take_take, Nat.min_eq_left (by omega)]
theorem zz0 {n : Nat} {H : Hist} {N : Nat → Nd} {s : Svn} {ms : List My} (h : PS H 0 N s ms) {v : Nat} (hv : v < 7) (hp : Rp n v (s.at v)) (hn : n ≤ 200) {L : List Ent} {ts : List Int} (A : AI H L ts) (hro : (s.at v).role = 3) {q : Nat} (hq : q ≤ L.length)
    (hle : ∀ j t, j < q → ts[j]? = some t → t ≤ (s.at v).hard.term) : zns (L.take q) (s.at v) := by
 obtain ⟨b, G, hb0, hN, k⟩ := h.tie v hv
 obtain rfl : b = 0 := by omega
 have ni := h.gi.nd v hv
 rw [hN] at ni
 obtain ⟨e1, e2, _, _⟩ := ni.ld hro
 have e1 : H.LL (s.at v).hard.term = G := e1
 have e2 : G ≠ [] := e2
 have hbase := k.base
 have hsum := k.sum
 refine ⟨lk_of hp hn, fun j hj _ => ?_⟩
 rw [List.length_take] at hj
 obtain ⟨t, ht⟩ := zci (A := ts) (i := j) (by rw [A.len]; omega)
 have jt := (A.jg j t ht).mono h.gi.st (Grows.refl H) (hle j t (by omega) ht) rfl
 have e3 := jt.lead h.gi.st (by rw [e1]; exact e2)
 rw [e1] at e3
 have hl := zdn e3.symm (by omega)
 obtain ⟨z, z1, z2⟩ := k.ent (i := (j : Int) + 1) (by omega) (by omega)
 rw [show ((j : Int) + 1).toNat - 1 = j by omega] at z2
 refine ⟨z, z1, ?_⟩
 have hjL : j < L.length := by omega
 rw [List.getElem_take, zii e3 (List.getElem?_eq_getElem hjL) z2]
theorem zqz {H : Hist} (S : Static H) {L : List Ent} (h : LM H L) : ∀ d i : Nat, i + d = L.length → zd5 (cfL H.c0 (L.take i)) (L.drop i) = true
 | 0, i, hd => by
  rw [List.drop_eq_nil_iff.2 (by omega)]
  rfl
 | d + 1, i, hd => by
  have hi : i < L.length := by omega
  have ih := zqz S h d (i + 1) (by omega)
  rw [List.take_succ_eq_append_getElem hi, zl4] at ih
  rw [List.drop_eq_getElem_cons hi]
  show (if (L[i]'hi).kind = 2 then nearR (cfL H.c0 (L.take i)) (L[i]'hi).conf && zd5 (L[i]'hi).conf (L.drop (i + 1)) else zd5 (cfL H.c0 (L.take i)) (L.drop (i + 1))) = true
  by_cases hk : (L[i]'hi).kind = 2
  ·rw [if_pos hk] at ih ⊢
   rw [h.near S (List.getElem?_eq_getElem hi) hk, ih]
   rfl
  ·rw [if_neg hk] at ih ⊢
   exact ih
structure AP (c : Conf) (n : Nat) (s : Svn) (ms : List My) (L : List Ent) (ts : List Int) : Prop where
 ply : Ply n s ms
 ps : ∃ H N, H.c0 = c ∧ PS H 0 N s ms ∧ AI H L ts
 len : L.length ≤ 401600
theorem AP.audit {c : Conf} {n : Nat} {s : Svn} {ms : List My} {L : List Ent} {ts : List Int} (h : AP c n s ms L ts) : zep leadF (svl s) ∧ zep znm (svl s) ∧ zep znb (svl s) := by
 obtain ⟨H, N, _, p, _⟩ := h.ps
 exact z0s p
theorem AP.tlen {c : Conf} {n : Nat} {s : Svn} {ms : List My} {L : List Ent} {ts : List Int} (h : AP c n s ms L ts) : ts.length = L.length := by
 obtain ⟨H, N, _, _, A⟩ := h.ps
 exact A.len
theorem AP.merge {c : Conf} {n : Nat} {s : Svn} {ms : List My} {L : List Ent} {ts : List Int} (h : AP c n s ms L ts) (hn : n ≤ 200) {v : Nat} (hv : v < 7) :
    mrgE L (s.at v) = 0 ∧ AP c n s ms (mrgO L (s.at v) (mrgJ L (s.at v))) (ts ++ List.replicate ((mrgO L (s.at v) (mrgJ L (s.at v))).length - L.length) (s.at v).hard.term) ∧ L.length ≤ (mrgO L (s.at v) (mrgJ L (s.at v))).length := by
 obtain ⟨H, N, hc, p, A⟩ := h.ps
 obtain ⟨a1, a2, a3, a4⟩ := z0e p hv (h.ply.rp v hv) hn A
 have := h.len
 exact ⟨a1, ⟨h.ply, ⟨H, N, hc, p, a2⟩, by omega⟩, a3⟩
theorem AP.lasts {c : Conf} {n : Nat} {s : Svn} {ms : List My} {L : List Ent} {ts : List Int} (h : AP c n s ms L ts) (hn : n ≤ 200) {v : Nat} (hv : v < 7) (hro : (s.at v).role = 3) {q : Nat} (hq : q ≤ L.length) (hle : ∀ j t, j < q → ts[j]? = some t → t ≤ (s.at v).hard.term) : zns (L.take q) (s.at v) := by
 obtain ⟨H, N, hc, p, A⟩ := h.ps
 exact zz0 p hv (h.ply.rp v hv) hn A hro hq hle
theorem AP.confs {c : Conf} {n : Nat} {s : Svn} {ms : List My} {L : List Ent} {ts : List Int} (h : AP c n s ms L ts) : zd5 c L = true := by
 obtain ⟨H, N, hc, p, A⟩ := h.ps
 have := zqz p.gi.st (A.lm p.gi.st) L.length 0 (by omega)
 rw [hc] at this
 exact this
theorem AP.step {c : Conf} {n : Nat} {s : Svn} {ms : List My} {L : List Ent} {ts : List Int} (h : AP c n s ms L ts) (hn : n ≤ 199) {a : Act} {s' : Svn} {ms' : List My} (st : Step n s ms a s' ms') (ha : ¬ (IntKind.u64.wrap a.doo).tmod 18 = 16) : AP c (n + 1) s' ms' L ts := by
 obtain ⟨H, N, hc, p, A⟩ := h.ps
 obtain ⟨H', N', g, p'⟩ := step_ps h.ply hn p st fun e => absurd e ha
 exact ⟨zzz h.ply hn st, ⟨H', N', g.c0.trans hc, p', A.mono p.gi.st g⟩, h.len⟩
theorem AP.mono {c : Conf} {n k : Nat} {s : Svn} {ms : List My} {L : List Ent} {ts : List Int} (h : AP c n s ms L ts) (hk : n ≤ k) : AP c k s ms L ts := ⟨h.ply.mono hk, h.ps, h.len⟩
theorem zy3 {c : Conf} (hcf : confB c = true) : AP c 0 (begS c 7) [] [] [] := by
 obtain ⟨N, p⟩ := zze c
 exact ⟨beg_ply hcf, ⟨H0 c, N, rfl, p, ⟨rfl, fun n t h => by cases h⟩⟩, Nat.zero_le _⟩
end Go.Proofs
