import Derived.Test.YtbhfokahocgndabGreatR6
import Derived.Test.YtbhfokahocgndabGreatU9
import Derived.Test.YtbhfokahocgndabGreatU10
import Derived.Test.YtbhfokahocgndabGreatU12
import Derived.Test.YtbhfokahocgndabGreatU13
import Derived.Test.YtbhfokahocgndabGreatU14
import Derived.Test.YtbhfokahocgndabGreatU16
import Derived.Test.YtbhfokahocgndabGreatU17
import Derived.Test.YtbhfokahocgndabGreatC1
import Derived.Test.YtbhfokahocgndabGreatK4
import Derived.Test.YtbhfokahocgndabGreatC24
/- An act of a play: there is a step that it is. -/
set_option linter.unusedSimpArgs false
set_option linter.unusedVariables false
namespace Go.Proofs
open Go.Pv
set_option maxRecDepth 100000
theorem c_zTickA (r : Rft) (hf : Fit r) : Ctr Tryz.prog 33 [.ag r.enc] (.tu [.ag (tkR r).enc, .sl 16 (tkO r)]) [] := by
 unfold tkR tkO
 by_cases h : r.role = 3
 ·rw [if_pos h, if_pos h]; exact c_zTickL r hf h
 ·rw [if_neg h, if_neg h]; exact c_zTick r hf h
theorem rightM_more {r : Rft} {m : Mg} (h : zid r m = true) : (0 ≤ m.logTerm ∧ m.logTerm ≤ far) ∧ (0 ≤ m.round ∧ m.round ≤ far) := by
 unfold zid at h
 simp only [Bool.and_eq_true, decide_eq_true_eq] at h
 obtain ⟨_, _, _, _, _, ⟨_, h7⟩, _, h8⟩ := h
 exact ⟨zcx h7, zcx h8⟩
structure Gd (r S : Rft) (ys : List My) : Prop where
 up : Up r S
 rgt : Rgt S
 log : S.hard.log.length ≤ 4000
 sent : ∀ y ∈ ys, y.frm = r.id ∧ y.to ≠ r.id ∧ (y.kind ≠ 1 → y.kind ≠ 2 → y.term = S.hard.term)
theorem beg_ply {c : Conf} (hc : confB c = true) : Ply 0 (begS c 7) [] := by
 refine ⟨fun k hk => ?_, fun y hy => absurd hy List.not_mem_nil, Nat.zero_le _⟩
 have hh : hardB (begH c) = true := by
  unfold hardB
  rw [zd3 (show HardA (begH c) from ⟨by show (0 : Int) ≤ 0 ∧ (0 : Int) ≤ _; decide, by show (-1 : Int) ≤ -1 ∧ (-1 : Int) ≤ 6; decide, by show (0 : Int) ≤ 0 ∧ (0 : Int) ≤ _; decide, by show (0 : Int) ≤ 0 ∧ (0 : Int) ≤ 0; decide, by show (0 : Int) = 0 ↔ (0 : Int) = 0; decide⟩), show confB (begH c).baseConf = true from hc]
  rfl
 have h0 := fun (i : Int) (hi : 0 ≤ i ∧ i < 7) => new_rp (n := 0) (i := i) hh hi (Nat.zero_le _) (by decide) (by show (0 : Int) ≤ _; decide) (Nat.zero_le _)
 rcases (by omega : k = 0 ∨ k = 1 ∨ k = 2 ∨ k = 3 ∨ k = 4 ∨ k = 5 ∨ k = 6) with rfl | rfl | rfl | rfl | rfl | rfl | rfl
 ·exact h0 0 (by decide)
 ·exact h0 1 (by decide)
 ·exact h0 2 (by decide)
 ·exact h0 3 (by decide)
 ·exact h0 4 (by decide)
 ·exact h0 5 (by decide)
 ·exact h0 6 (by decide)
structure First (c : Conf) (k0 : Nat) (D : Nat) : Prop where
 k7 : k0 < 7
 full : tb c.full k0 = true
 d : delay c k0 = D
 d6 : 6 ≤ D ∧ D ≤ 18
 lt : ∀ v, v < 7 → v ≠ k0 → tb (zbb c) v = true → (D : Int) < delay c v
theorem first_ex {c : Conf} (h : Cok c) : ∃ k0 D, First c k0 D := by
 have least : ∀ n : Nat, ∀ i, i < n → i < 7 → tb c.full i = true → ∃ k, k < 7 ∧ tb c.full k = true ∧ ∀ v, v < k → tb c.full v = false := by
  intro n
  induction n with
  | zero => intro i hi; omega
  | succ n ih =>
   intro i hi hi7 ht
   by_cases hb : ∃ v, v < i ∧ tb c.full v = true
   ·obtain ⟨v, hv, hvt⟩ := hb
    exact ih v (by omega) (by omega) hvt
   ·refine ⟨i, hi7, ht, fun v hv => ?_⟩
    cases e : tb c.full v with
    | false => rfl
    | true => exact absurd ⟨v, hv, e⟩ hb
 obtain ⟨i, hi, ht⟩ := h.some
 obtain ⟨k, hk, hkt, hkl⟩ := least 7 i hi hi ht
 have hd : delay c k = ((6 + 2 * k : Nat) : Int) := by
  rw [delay_eq, zbs hk, hkt, if_pos rfl]; omega
 refine ⟨k, 6 + 2 * k, hk, hkt, hd, by omega, fun v hv hne hvt => ?_⟩
 rw [delay_eq, zbs hv, zbs hv]
 cases hf : tb c.full v with
 | true =>
  rw [if_pos rfl]
  have : ¬ v < k := fun e => by rw [hkl v e] at hf; cases hf
  omega
 | false =>
  rw [tb_or, hf, Bool.false_or] at hvt
  rw [if_neg (by decide), if_pos hvt]; omega
noncomputable def idl (c : Conf) (v t : Nat) : Rft := ak c v 0 0 (if tb (zbb c) v = true then delay c v - t else delay c v) t
noncomputable def nxC (c : Conf) (k0 D v t : Nat) : Rft := if t + 1 = D ∧ v = k0 then ak c k0 1 (shl 1 k0) (delay c k0) (t + 1 : Nat) else idl c v (t + 1)
noncomputable def asks (c : Conf) (k0 : Nat) : List My := (othN k0 (zbb c) 7).map fun i => ⟨1, k0, i, 1, 0, 0, 0, 0, false, cz, .no⟩
theorem asks_enc (c : Conf) (k0 : Nat) : (othN k0 (bor c.full c.wit) 7).map (askG k0) = (asks c k0).map My.enc := by
 unfold asks
 rw [List.map_map]; rfl
theorem idl_tick {c : Conf} {k0 D : Nat} (h2 : 2 ≤ count (zbb c)) (F : First c k0 D) {v t : Nat} (hv : v < 7) (ht : t + 1 ≤ D) : tkR (idl c v t) = nxC c k0 D v t ∧ tkO (idl c v t) = (if t + 1 = D ∧ v = k0 then asks c k0 else []).map My.enc := by
 have hD := F.d6
 have hr : ¬ (idl c v t).role = 3 := by show ¬ (0 : Int) = 3; decide
 have hfar : farM ((t : Int) + 1) = ((t + 1 : Nat) : Int) := by rw [farM_le (by omega)]; omega
 unfold tkR tkO
 rw [if_neg hr, if_neg hr]
 unfold idl nxC
 cases hvt : tb (zbb c) v with
 | false =>
  have hne : ¬ (t + 1 = D ∧ v = k0) := fun e => by
   have : tb (zbb c) k0 = true := by rw [tb_or, F.full]; rfl
   rw [e.2, this] at hvt; cases hvt
  obtain ⟨a, b⟩ := tick_n (c := c) (id := (v : Int)) (by rw [zbs hv]; exact hvt) 0 0 (if false = true then delay c v - t else delay c v) t
  rw [a, b, if_neg hne, if_neg hne, hfar, if_neg (by decide)]
  unfold idl
  rw [hvt, if_neg (by decide)]
  exact ⟨rfl, rfl⟩
 | true =>
  rw [if_pos rfl]
  by_cases hlast : t + 1 = D ∧ v = k0
  ·rw [if_pos hlast, if_pos hlast]
   obtain ⟨e1, rfl⟩ := hlast
   have hw : delay c v - t = 1 := by rw [F.d]; omega
   obtain ⟨a, b⟩ := tick_a (c := c) (id := (v : Int)) (by rw [zbs hv]; exact hvt) 0 0 t (zdh hv h2)
   rw [hw, a, b, hfar, asks_enc]
   exact ⟨rfl, rfl⟩
  ·rw [if_neg hlast, if_neg hlast]
   have hw : 1 < delay c v - t := by
    by_cases e : v = k0
    ·have : t + 1 ≠ D := fun e2 => hlast ⟨e2, e⟩
     rw [e, F.d]; omega
    ·have := F.lt v hv e hvt
     omega
   obtain ⟨a, b⟩ := tick_w (c := c) (id := (v : Int)) (by rw [zbs hv]; exact hvt) 0 0 hw t
   rw [a, b, hfar]
   unfold idl
   rw [hvt, if_pos rfl, show delay c v - ((t : Nat) : Int) - 1 = delay c v - ((t + 1 : Nat) : Int) by omega]
   exact ⟨rfl, rfl⟩
structure Rnd (c : Conf) (k0 D t k : Nat) (s : Svn) (ms : List My) : Prop where
 ply : Ply (7 * t + k) s ms
 at' : ∀ v, v < 7 → s.at v = if v < k then nxC c k0 D v t else idl c v t
 ms : ms = if t + 1 = D ∧ k0 < k then asks c k0 else []
theorem beg_at (c : Conf) : ∀ v, v < 7 → (begS c 7).at v = idl c v 0 := fun v hv => by
 have e : (if tb (zbb c) v = true then delay c v - ((0 : Nat) : Int) else delay c v) = delay c v := by split <;> omega
 unfold idl
 rw [e]
 rcases (by omega : v = 0 ∨ v = 1 ∨ v = 2 ∨ v = 3 ∨ v = 4 ∨ v = 5 ∨ v = 6) with rfl | rfl | rfl | rfl | rfl | rfl | rfl <;> rfl
theorem rd_begin {c : Conf} (hcf : confB c = true) {k0 D : Nat} (F : First c k0 D) : Rnd c k0 D 0 0 (begS c 7) [] :=
 ⟨beg_ply hcf, fun v hv => by rw [if_neg (Nat.not_lt_zero v)]; exact beg_at c v hv, by rw [if_neg (by omega)]⟩
abbrev tkA (k : Int) : Act := ⟨0, k, 0, kz, cz⟩
abbrev takeA : Act := ⟨4, 0, 0, kz, cz⟩
theorem draw_k {k : Nat} (hk : k < 7) : IntKind.i64.wrap ((IntKind.u64.wrap ((k : Nat) : Int)).tmod 7) = (k : Int) := by
 rcases (by omega : k = 0 ∨ k = 1 ∨ k = 2 ∨ k = 3 ∨ k = 4 ∨ k = 5 ∨ k = 6) with rfl | rfl | rfl | rfl | rfl | rfl | rfl <;> decide
theorem do_tk {n : Nat} {s : Svn} {ms : List My} (h : Ply n s ms) (hn : n ≤ 199) {k : Nat} (hk : k < 7) {ys : List My} (e : tkO (s.at k) = ys.map My.enc) : Ply (n + 1) (s.put k (tkR (s.at k))) (capY ms ys) ∧ DoC s ms (tkA k) (s.put k (tkR (s.at k))) (capY ms ys) := by
 have hr := h.rp k hk
 have hlg := hr.log
 have hf := hr.rgt.fit (show (s.at k).hard.log.length < 4294967 by omega)
 have hsm := hr.small (by omega)
 have hlen := h.len
 have hM : (ms.map My.enc).length ≤ 100 := by rw [List.length_map]; exact hlen
 have kz := c_zTickA (s.at k) hf
 rw [e] at kz
 refine ⟨step_ply h hn (a := tkA k) (.tick k hk ys e), .lost ?_⟩
 rw [← capY_map]
 exact c_do_tick s (ms.map My.enc) hM (tkA k) k hk (draw_k hk) 0 (by show (IntKind.u64.wrap (0 : Int)).tmod 18 = 0; decide) hsm ⟨by decide, by decide⟩ (tkR (s.at k)) ys kz
theorem do_tk4 {n : Nat} {s : Svn} {y : My} {ms : List My} (h : Ply n s (y :: ms)) (hn : n ≤ 199) (hr : zid (s.at y.to.toNat) y.mg = true) {R : Rft} {ys : List My} (hk : TK (s.at y.to.toNat) y.mg R (ys.map My.enc) 0) : Ply (n + 1) (s.put y.to.toNat R) (capY ms ys) ∧ DoC s (y :: ms) takeA (s.put y.to.toNat R) (capY ms ys) := by
 have hy := h.my y (List.mem_cons_self ..)
 have hto := hy.tor
 have ht7 : y.to.toNat < 7 := by omega
 have ht : y.to = (y.to.toNat : Nat) := by omega
 have hrt := h.rp _ ht7
 have hlt := hrt.log
 have hst := hrt.small (by omega)
 have hM := rightM_of hr
 obtain ⟨hL, hR⟩ := rightM_more hr
 have hes := hy.es
 have hsn := hy.sn
 have kz := c_zTake_tk (s.at y.to.toNat) y.mg hrt.rgt (by omega) hM hL hR (by show y.bd.ents.length ≤ 1000; omega) (by show y.bd.snp.length ≤ 40000; omega) hk
 rw [zca] at kz
 have hlen := h.len
 have hj : 0 < (y :: ms).length := Nat.zero_lt_succ _
 have hdr : IntKind.i64.wrap ((IntKind.u64.wrap takeA.n).tmod (IntKind.u64.wrap ((y :: ms).length : Int))) = ((0 : Nat) : Int) := by
  rw [show IntKind.u64.wrap takeA.n = 0 from by decide, Int.zero_tmod]; decide
 refine ⟨step_ply h hn (a := takeA) (.take 0 hj y.to.toNat ht7 ht hM R ys hk), .kept ?_⟩
 rw [← capY_map]
 exact c_do_take s (y :: ms) hlen takeA 0 (by decide) (by decide) 4 (by show (IntKind.u64.wrap (4 : Int)).tmod 18 = 4; decide) (h.rp 0 (by decide) |>.small (by omega)) 0 hj hdr y rfl ⟨by decide, by decide⟩ y.to.toNat ht7 ht hst R ys kz
theorem asks_len (c : Conf) (k0 : Nat) : (asks c k0).length ≤ 7 := by
 unfold asks
 rw [List.length_map]
 exact zcd ..
theorem rd_tick {c : Conf} {k0 D : Nat} (h2 : 2 ≤ count (zbb c)) (F : First c k0 D) {t k : Nat} {s : Svn} {ms : List My} (h : Rnd c k0 D t k s ms) (hk : k < 7) (ht : t + 1 ≤ D) : ∃ s' ms', Rnd c k0 D t (k + 1) s' ms' ∧ DoC s ms (tkA k) s' ms' := by
 have hD := F.d6
 have e0 : s.at k = idl c k t := by rw [h.at' k hk, if_neg (Nat.lt_irrefl k)]
 obtain ⟨a, b⟩ := idl_tick h2 F hk ht
 rw [← e0] at a b
 obtain ⟨p, d⟩ := do_tk h.ply (by omega) hk b
 have hal := asks_len c k0
 refine ⟨_, _, ⟨p, fun v hv => ?_, ?_⟩, d⟩
 ·rw [Svn.put_at s _ hk hv, a]
  by_cases e : v = k
  ·rw [if_pos e, if_pos (by omega), e]
  ·rw [if_neg e, h.at' v hv]
   by_cases e2 : v < k
   ·rw [if_pos e2, if_pos (by omega)]
   ·rw [if_neg e2, if_neg (by omega)]
 ·unfold capY
  rw [h.ms]
  by_cases hl : t + 1 = D
  ·by_cases hk0 : k0 < k
   ·rw [if_pos ⟨hl, hk0⟩, if_neg (by omega), if_pos ⟨hl, by omega⟩, List.take_nil, List.append_nil]
   ·rw [if_neg (by omega)]
    by_cases e : k = k0
    ·rw [if_pos ⟨hl, e⟩, if_pos ⟨hl, by omega⟩, List.nil_append, List.take_of_length_le (by simp; omega)]
    ·rw [if_neg (by omega), if_neg (by omega)]; rfl
  ·rw [if_neg (by omega), if_neg (by omega), if_neg (by omega)]; rfl
theorem rd_next {c : Conf} {k0 D t : Nat} {s : Svn} {ms : List My} (h : Rnd c k0 D t 7 s ms) (ht : t + 1 < D) : Rnd c k0 D (t + 1) 0 s ms ∧ ms = [] ∧ ∀ v, v < 7 → (s.at v).role = 0 := by
 have e : ms = [] := by rw [h.ms, if_neg (by omega)]
 have ea : ∀ v, v < 7 → s.at v = idl c v (t + 1) := fun v hv => by
  rw [h.at' v hv, if_pos hv]
  unfold nxC
  rw [if_neg (by omega)]
 refine ⟨⟨h.ply, fun v hv => by rw [if_neg (Nat.not_lt_zero v)]; exact ea v hv, by rw [if_neg (by omega)]; exact e⟩, e, fun v hv => by rw [ea v hv]; rfl⟩
theorem rd_last {c : Conf} {k0 D : Nat} (h2 : 2 ≤ count (zbb c)) (F : First c k0 D) {t : Nat} {s : Svn} {ms : List My} (h : Rnd c k0 D t 7 s ms) (ht : t + 1 = D) : CP c k0 1 s ms ∧ wL ms + rsv 1 ≤ 42 := by
 have hD := F.d6
 have hk0 := F.k7
 have hk0v : tb (zbb c) k0 = true := by rw [tb_or, F.full]; rfl
 have e : ms = asks c k0 := by rw [h.ms, if_pos ⟨ht, hk0⟩]
 have ek : s.at k0 = ak c k0 1 (shl 1 k0) (delay c k0) (t + 1 : Nat) := by
  rw [h.at' k0 hk0, if_pos hk0]
  unfold nxC
  rw [if_pos ⟨ht, rfl⟩]
 have ea : ∀ v, v < 7 → v ≠ k0 → s.at v = idl c v (t + 1) := fun v hv hne => by
  rw [h.at' v hv, if_pos hv]
  unfold nxC
  rw [if_neg (by omega)]
 refine ⟨⟨by omega, fun v hv hne => ?_, ⟨fun _ => ?_, fun e => by omega, fun e => by omega⟩, fun y hy => ?_, fun v hv hne hvt => ⟨fun _ => .inr ?_, fun e => by omega, fun e => by omega⟩⟩, ?_⟩
 ·rw [ea v hv hne]
  exact ⟨rfl, rfl, ⟨0, -1, [], rfl, .inl ⟨rfl, rfl, rfl⟩⟩, fun _ => ⟨rfl, by show (6 : Int) ≤ ((t + 1 : Nat) : Int); omega⟩, fun e => by omega⟩
 ·rw [ek]
  refine ⟨rfl, rfl, rfl, ?_, zdh hk0 h2⟩
  show tb (shl 1 k0) k0 = true
  rw [zdu k0 k0 (by omega), decide_eq_true_eq]
 ·rw [e] at hy
  obtain ⟨i, hi, rfl⟩ := List.mem_map.1 hy
  have hr := zc5 hi
  have hne := zg2 hi
  exact ⟨by show (0 : Int) ≤ k0 ∧ (k0 : Int) < 7; omega, hr, by show (k0 : Int) ≠ i; omega, by show (0 : Int) ≤ 0 ∧ (0 : Int) ≤ _; decide, by show (0 : Int) ≤ 0 ∧ (0 : Int) ≤ 1; decide, rfl, by show (1 : Int) ≤ 1 ∧ (1 : Int) ≤ 6; decide, fun _ => rfl, fun e => absurd e (by show ¬ ((1 : Int) = 2 ∨ (1 : Int) = 4 ∨ (1 : Int) = 6); decide), fun _ => ⟨rfl, rfl⟩, fun e => absurd e (by show ¬ (1 : Int) = 2; decide), fun e => absurd e (by show ¬ (1 : Int) = 3; decide), fun e => absurd e (by show ¬ (1 : Int) = 4; decide), fun e => absurd e (by show ¬ (1 : Int) = 5; decide), fun e => absurd e (by show ¬ (1 : Int) = 6; decide)⟩
 ·refine ⟨_, by rw [e]; exact List.mem_map.2 ⟨(v : Int), zhn hv (by omega) hvt, rfl⟩, .inl ⟨rfl, rfl⟩⟩
 ·have h1 := zkg ms
  have h3 := asks_len c k0
  rw [← e] at h3
  show wL ms + 28 ≤ 42
  omega
theorem cp_step {c : Conf} {k0 ph : Nat} (h2 : 2 ≤ count (zbb c)) (hk0 : k0 < 7) {n : Nat} (hn : n ≤ 199) {s : Svn} {y : My} {ms : List My} (hp : Ply n s (y :: ms)) (h : CP c k0 ph s (y :: ms)) {W : Nat} (hW : wL (y :: ms) + rsv ph ≤ W + 1) (hW2 : W ≤ 60) :
    ∃ s' ms' ph', Ply (n + 1) s' ms' ∧ CP c k0 ph' s' ms' ∧ wL ms' + rsv ph' ≤ W ∧ DoC s (y :: ms) takeA s' ms' := by
 obtain ⟨R, ys, ph', T⟩ := took h2 hk0 hn hp h
 obtain ⟨p, d⟩ := do_tk4 hp hn (zju hp h) T.tk
 have hpot := T.pot
 have h1 := (zkg ms).1
 have h3 := (zkg ys).1
 have hWW : wM y + wL ms + rsv ph ≤ W + 1 := hW
 have ec : capY ms ys = ms ++ ys := by
  unfold capY
  rw [List.take_of_length_le (by omega)]
 rw [ec] at p d
 exact ⟨_, _, ph', p, T.cp, by rw [wL_app]; omega, d⟩
set_option maxHeartbeats 16000000 in
theorem c_apart {c : Conf} (hc : Cok c) (h2 : 2 ≤ count (zbb c)) {k : Nat} (hk : k < 7) (hv : tb (zbb c) k = true) (r : Rft) (h : Prp c k 1 r) (l : List VCall) (hl : l.length ≤ 40) : Ctr Tryz.prog 21 [.ag r.enc, .sl 10 (l.map VCall.enc)] (bv true) [] := by
 have hml : (l.map VCall.enc).length = l.length := List.length_map ..
 refine zh0 mixed Tryz.func21 rfl (by kernel_rfl) (by kernel_rfl) ?_
 refine tSeq ?_
 conv => whnf
 refine tCut (fun x : Rft => ∃ n, n ≤ 41 ∧ Prp c k n x) (fun _ => []) (fun x => [(2, x.enc)]) (fun _ => []) ?_ ?_
 ·conv => whnf
  refine zeg (fun x : Nat × Rft => x.1 ≤ l.length ∧ Prp c k (1 + x.1) x.2) (fun x => [(5, iv x.1)]) (fun x => [(2, x.2.enc)]) (fun _ => []) [] (fun x => l.length - x.1) (0, r) ⟨Nat.zero_le _, h⟩ ?_ ?_
  ·conv => whnf
   exact wkD
  clear h
  rintro ⟨i, r⟩ ⟨hi, h⟩
  have hi : i ≤ l.length := hi
  have h : Prp c k (1 + i) r := h
  conv => whnf
  refine tSeq ?_
  conv => whnf
  (refine tSp (fun h => ?_) (fun h => ?_) <;> conv => whnf)
  ·have hlt : i < l.length := by rw [hml] at h; omega
   clear h
   rename_i h _
   have hrow := zb4 (f := VCall.enc) hlt
   generalize l[i]'hlt = a at *
   have hlg := h.rp.log
   have hf := h.rp.rgt.fit (show r.hard.log.length < 4294967 by omega)
   have hr := right_of h.rp.rgt
   refine zfj ?_
   refine zgu ?_
   by_cases he : propE r a = 0
   ·have kp := c_Prop_ok r a hf hr he
    have hn := h.prop (by omega) he
    generalize addR r (ec r a) = S at *
    refine pwS ?_
    conv => whnf
    refine ⟨by omega, _, hrow, ?_⟩
    conv => whnf
    ((try (refine Exists.intro none ?_; conv => whnf)); (with_reducible refine zaa (kp) ?_); conv => whnf)
    (refine new0 ?_; conv => whnf)
    refine pwS ?_
    conv => whnf
    refine ⟨(i + 1, S), [], ⟨⟨by show i + 1 ≤ l.length; omega, by rw [show 1 + (i + 1) = 1 + i + 1 by omega]; exact hn⟩, by show l.length - (i + 1) < l.length - i; omega⟩, ?_⟩
    conv => whnf
    exact wkD
   ·have kp := c_Prop_err r a hf hr he
    generalize propE r a = E at *
    refine pwS ?_
    conv => whnf
    refine ⟨by omega, _, hrow, ?_⟩
    conv => whnf
    ((try (refine Exists.intro none ?_; conv => whnf)); (with_reducible refine zaa (kp) ?_); conv => whnf)
    (first | refine tYes ?_ | refine tNo ?_)
    conv => whnf
    refine pwS ?_
    conv => whnf
    refine ⟨(i + 1, r), [], ⟨⟨by show i + 1 ≤ l.length; omega, by
     have := h.rp.mono (show 1 + i ≤ 1 + (i + 1) by omega)
     exact ⟨this, h.role, h.nc, h.sil⟩⟩, by show l.length - (i + 1) < l.length - i; omega⟩, ?_⟩
    conv => whnf
    exact wkD
  ·refine ⟨r, [], ⟨1 + i, by omega, by assumption⟩, ?_⟩
   conv => whnf
   exact wkD
 clear h
 rintro r ⟨n, hn, h⟩
 have h : Prp c k n r := h
 have hlg := h.rp.log
 have hap : Apt c k r r 0 := h.apt
 clear h
 conv => whnf
 refine tSeq ?_
 conv => whnf
 refine tCut (fun x : Rft => x.role = 0 ∧ x.lead = -1 ∧ x.reads = []) (fun _ => []) (fun x => [(2, x.enc)]) (fun _ => []) ?_ ?_
 ·conv => whnf
  refine zeg (fun x : Nat × Rft => x.1 ≤ 12 ∧ (x.1 ≤ 11 → Apt c k r x.2 x.1) ∧ (x.1 = 12 → x.2.role = 0 ∧ x.2.lead = -1 ∧ x.2.reads = [])) (fun x => [(10, iv x.1)]) (fun x => [(2, x.2.enc)]) (fun _ => []) [] (fun x => 12 - x.1) (0, r) ⟨by show 0 ≤ 12; omega, fun _ => hap, fun e => by have e : 0 = 12 := e; omega⟩ ?_ ?_
  ·conv => whnf
   exact wkD
  rintro ⟨i, x⟩ ⟨hi, h1, h3⟩
  have hi : i ≤ 12 := hi
  have h1 : i ≤ 11 → Apt c k r x i := h1
  have h3 : i = 12 → x.role = 0 ∧ x.lead = -1 ∧ x.reads = [] := h3
  conv => whnf
  refine tSeq ?_
  conv => whnf
  by_cases hlt : i < 12
  ·(first | refine tYes ?_ | refine tNo ?_)
   conv => whnf
   have ha := h1 (by omega)
   have kt := c_TickA x (right_of ha.rgt) (by rw [ha.hard]; omega)
   have facts : (tkR x).commit = r.commit ∧ (tkR x).hard.term = x.hard.term ∧ (((tkR x).role = 3 ∧ i + 1 ≤ 11 ∧ Apt c k r (tkR x) (i + 1)) ∨ ((tkR x).role = 0 ∧ (tkR x).lead = -1 ∧ (tkR x).reads = [] ∧ i + 1 = 12 ∧ tkO x = [])) := by
    by_cases e : i = 11
    ·subst e
     obtain ⟨q1, q2⟩ := apt_last h2 hk ha
     rw [q1]
     refine ⟨ha.com, ?_, .inr ⟨rfl, rfl, rfl, rfl, q2⟩⟩
     rw [show (fallR (beatR x) x.hard.term (-1)).hard = (beatR x).hard from zeb (beatR x) (-1)]
    ·obtain ⟨q1, q2⟩ := apt_next hc hk hv ha (by omega)
     rw [q1]
     exact ⟨q2.com, rfl, .inl ⟨q2.role, by omega, q2⟩⟩
   have hxc := ha.com
   clear h1 h3 ha
   generalize tkR x = S at *
   generalize tkO x = O at *
   obtain ⟨f1, f2, f3⟩ := facts
   refine zfj ?_
   refine zgu ?_
   refine pwS ?_
   conv => whnf
   ((try (refine Exists.intro none ?_; conv => whnf)); (with_reducible refine zaa (kt) ?_); conv => whnf)
   (refine new0 ?_; conv => whnf)
   (first | refine tYes ?_ | refine tNo ?_)
   conv => whnf
   (first | refine tYes ?_ | refine tNo ?_)
   conv => whnf
   rcases f3 with ⟨g1, g2, g3⟩ | ⟨g1, g2, g3, g4, g5⟩
   ·(first | refine tYes ?_ | refine tNo ?_)
    conv => whnf
    refine pwS ?_
    conv => whnf
    refine ⟨(i + 1, S), [], ⟨⟨by show i + 1 ≤ 12; omega, fun _ => g3, fun e => by have e : i + 1 = 12 := e; omega⟩, by show 12 - (i + 1) < 12 - i; omega⟩, ?_⟩
    conv => whnf
    exact wkD
   ·subst g5
    (first | refine tYes ?_ | refine tNo ?_)
    conv => whnf
    refine pwS ?_
    conv => whnf
    refine ⟨(i + 1, S), [], ⟨⟨by show i + 1 ≤ 12; omega, fun e => by have e : i + 1 ≤ 11 := e; omega, fun _ => ⟨g1, g2, g3⟩⟩, by show 12 - (i + 1) < 12 - i; omega⟩, ?_⟩
    conv => whnf
    exact wkD
  ·(first | refine tYes ?_ | refine tNo ?_)
   conv => whnf
   refine ⟨x, [], h3 (by omega), ?_⟩
   conv => whnf
   exact wkD
 clear hap
 rintro x ⟨q1, q2, q3⟩
 have q1 : x.role = 0 := q1
 have q2 : x.lead = -1 := q2
 have q3 : x.reads = [] := q3
 refine pwS ?_
 conv => whnf
 (first | refine tYes ?_ | refine tNo ?_)
 conv => whnf
 (first | refine tYes ?_ | refine tNo ?_)
 conv => whnf
 rw [q3]
 exact zab rfl rfl
end Go.Proofs
