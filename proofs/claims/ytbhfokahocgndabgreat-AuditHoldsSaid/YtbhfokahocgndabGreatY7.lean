import Derived.Test.YtbhfokahocgndabGreatY6
import Derived.Test.YtbhfokahocgndabGreatU17
import Derived.Test.YtbhfokahocgndabGreatR6
/- Plain law of safety: a play. -/
set_option linter.unusedSimpArgs false
set_option linter.unusedVariables false
namespace Go.Proofs
open Go.Pv
set_option maxRecDepth 100000
theorem ze4 {a b : Int} (h : iv a = iv b) : a = b := by injection h with h; injection h
theorem bv_inj {a b : Bool} (h : bv a = bv b) : a = b := by injection h with h; injection h
theorem zy5 {a b : Conf} (h0 : iv a.full = iv b.full) (h1 : iv a.wit = iv b.wit) (h2 : iv a.learn = iv b.learn) (h3 : iv a.lwit = iv b.lwit) : a = b := by
 obtain ⟨x0, x1, x2, x3⟩ := a
 obtain ⟨y0, y1, y2, y3⟩ := b
 rw [show x0 = y0 from ze4 h0, show x1 = y1 from ze4 h1, show x2 = y2 from ze4 h2, show x3 = y3 from ze4 h3]
theorem ent_inj {a b : Ent} (h : a.enc = b.enc) : a = b := by
 obtain ⟨t, k, ⟨c, s, ⟨ck, key, ⟨ok, on, ot⟩, ⟨vk, vn, vt⟩⟩⟩, ⟨f0, f1, f2, f3⟩⟩ := a
 obtain ⟨t', k', ⟨c', s', ⟨ck', key', ⟨ok', on', ot'⟩, ⟨vk', vn', vt'⟩⟩⟩, ⟨f0', f1', f2', f3'⟩⟩ := b
 simp only [Ent.enc, iv, sv, List.cons.injEq, PV.sc.injEq, Value.int.injEq, true_and, and_true] at h
 simp_all
theorem zpv {α β : Type} {f : α → β} (hf : ∀ {a b}, f a = f b → a = b) : ∀ {l k : List α}, l.map f = k.map f → l = k
 | [], [], _ => rfl
 | [], _ :: _, h => by cases h
 | _ :: _, [], h => by cases h
 | a :: l, b :: k, h => by
  rw [List.map_cons, List.map_cons] at h
  injection h with h1 h2
  rw [hf h1, zpv hf h2]
theorem bd_inj {a b : Bd} (h1 : a.ev = b.ev) (h2 : a.sv = b.sv) : a = b := by
 cases a with
 | no =>
  cases b with
  | no => rfl
  | es l => injection h1
  | sn l => injection h2
 | es l =>
  cases b with
  | no => injection h1
  | es k =>
   injection h1 with _ h1
   rw [zpv ent_inj h1]
  | sn k => injection h1
 | sn l =>
  cases b with
  | no => injection h2
  | es k => injection h2
  | sn k =>
   injection h2 with _ h2
   rw [zpv (f := encB) (fun {a b} h => by
    have h : [_] = [_] := h
    injection h with h
    injection h with h
    injection h) h2]
theorem my_inj {x y : My} (e : x.enc = y.enc) : x = y := by
 have q : ∀ i : Nat, x.enc[i]? = y.enc[i]? := fun i => by rw [e]
 have r : ∀ {a b : PV}, some a = some b → a = b := fun h => Option.some.inj h
 have b1 := bd_inj (a := x.bd) (b := y.bd) (r (q 9)) (r (q 14))
 have c1 := zy5 (a := x.cf) (b := y.cf) (r (q 10)) (r (q 11)) (r (q 12)) (r (q 13))
 have k0 := ze4 (a := x.kind) (b := y.kind) (r (q 0))
 have k1 := ze4 (a := x.frm) (b := y.frm) (r (q 1))
 have k2 := ze4 (a := x.to) (b := y.to) (r (q 2))
 have k3 := ze4 (a := x.term) (b := y.term) (r (q 3))
 have k4 := ze4 (a := x.index) (b := y.index) (r (q 4))
 have k5 := ze4 (a := x.logT) (b := y.logT) (r (q 5))
 have k6 := ze4 (a := x.commit) (b := y.commit) (r (q 6))
 have k7 := ze4 (a := x.round) (b := y.round) (r (q 7))
 have k8 := bv_inj (a := x.yes) (b := y.yes) (r (q 8))
 obtain ⟨x0, x1, x2, x3, x4, x5, x6, x7, x8, x9, x10⟩ := x
 obtain ⟨y0, y1, y2, y3, y4, y5, y6, y7, y8, y9, y10⟩ := y
 simp only at b1 c1 k0 k1 k2 k3 k4 k5 k6 k7 k8
 subst b1 c1 k0 k1 k2 k3 k4 k5 k6 k7 k8
 rfl
theorem RowsF.ys {H : Hist} {B : Nat} {ys : List My} (h : RowsF H B (ys.map My.enc)) : ∀ y ∈ ys, MF H B y.mg := fun y hy => by
 obtain ⟨z, e, hz⟩ := h y.enc (List.mem_map.2 ⟨y, hy, rfl⟩)
 rw [my_inj e]; exact hz
structure PS (H : Hist) (B : Nat) (N : Nat → Nd) (s : Svn) (ms : List My) : Prop where
 gi : GI H N
 tie : ∀ v, v < 7 → ∃ b G, b ≤ B ∧ N v = ndR (s.at v) G ∧ HG H.c0 (s.at v).hard b G
 mf : ∀ y ∈ ms, MF H B y.mg
theorem ps_sub {H : Hist} {B : Nat} {N : Nat → Nd} {s : Svn} {ms zs : List My} (h : PS H B N s ms) (hz : ∀ y ∈ zs, y ∈ ms) : PS H B N s zs := ⟨h.gi, h.tie, fun y hy => h.mf y (hz y hy)⟩
theorem zrg {H : Hist} {B : Nat} {N : Nat → Nd} {s : Svn} {ms ys zs : List My} (h : PS H B N s ms) {v : Nat} (hv : v < 7) {R : Rft} (hx : NX H B N v R (ys.map My.enc)) (hz : ∀ y ∈ zs, y ∈ ms ∨ y ∈ ys) : ∃ H' N', Grows H H' ∧ PS H' B N' (s.put v R) zs := by
 obtain ⟨H', G', g, I, ⟨b, hb, k⟩, rows⟩ := hx
 refine ⟨H', upd N v (ndR R G'), g, I, fun w hw => ?_, fun y hy => ?_⟩
 ·rw [Svn.put_at s R hv hw]
  by_cases e : w = v
  ·rw [if_pos e]
   subst e
   exact ⟨b, G', hb, za9 .., by rw [g.c0]; exact k⟩
  ·rw [if_neg e]
   obtain ⟨b2, G2, a, c, d⟩ := h.tie w hw
   exact ⟨b2, G2, a, (zc0 N e _).trans c, by rw [g.c0]; exact d⟩
 ·rcases hz y hy with a | a
  ·exact (h.mf y a).mono h.gi.st g
  ·exact rows.ys y a
theorem zpx {ms ys : List My} {y : My} (h : y ∈ capY ms ys) : y ∈ ms ∨ y ∈ ys := by
 unfold capY at h
 rcases List.mem_append.1 h with h | h
 ·exact .inl h
 ·exact .inr (List.mem_of_mem_take h)
theorem step_ps {n : Nat} {s : Svn} {ms : List My} {a : Act} {s' : Svn} {ms' : List My} (hp : Ply n s ms) (hn : n ≤ 199) {H : Hist} {B : Nat} {N : Nat → Nd} (h : PS H B N s ms) (st : Step n s ms a s' ms') (hB : (IntKind.u64.wrap a.doo).tmod 18 = 16 → ∀ k, k < 7 → (s.at k).commit.toNat ≤ B) :
    ∃ H' N', Grows H H' ∧ PS H' B N' s' ms' := by
 cases st with
 | none => exact ⟨H, N, Grows.refl H, h⟩
 | tick k hk ys e =>
  obtain ⟨b, G, hb, hN, kk⟩ := h.tie k hk
  refine zrg h hk (ys := ys) ?_ fun y hy => zpx hy
  rw [← e]
  unfold tkR tkO
  by_cases hr : (s.at k).role = 3
  ·rw [if_pos hr, if_pos hr]
   exact nx_beat h.gi hk (hp.rp k hk) hn hr hN kk
  ·rw [if_neg hr, if_neg hr]
   exact nx_tick h.gi hk (hp.rp k hk) hn hr hN kk
 | take j hj t ht hto hM R ys hk =>
  obtain ⟨b, G, hb, hN, kk⟩ := h.tie t ht
  refine zrg h ht (ys := ys) (nx_take h.gi ht (hp.rp t ht) hn hN kk hM (h.mf _ (List.getElem_mem hj)) hk rfl) fun y hy => ?_
  rcases zpx hy with a | a
  ·exact .inl (List.mem_of_mem_eraseIdx a)
  ·exact .inr a
 | lose j => exact ⟨H, N, Grows.refl H, ps_sub h fun y hy => List.mem_of_mem_eraseIdx hy⟩
 | double j hj =>
  refine ⟨H, N, Grows.refl H, ps_sub h fun y hy => ?_⟩
  rcases zpx hy with a | a
  ·exact a
  ·rw [List.mem_singleton.1 a]; exact List.getElem_mem hj
 | act k hk c kd R hE hd =>
  obtain ⟨b, G, hb, hN, kk⟩ := h.tie k hk
  exact zrg h hk (ys := []) (nx_act h.gi hk (hp.rp k hk) hn hN kk hE (fun e => hB (hd.trans e) k hk)) fun y hy => .inl hy
 | crash k hk =>
  obtain ⟨b, G, hb, hN, kk⟩ := h.tie k hk
  exact zrg h hk (ys := []) (z0r h.gi hk (hp.rp k hk) hN kk) fun y hy => .inl hy
def H0 (c : Conf) : Hist := ⟨c, fun _ => [], fun _ _ _ _ => False, fun _ _ _ _ => False, fun _ _ _ => False⟩
theorem zze (c : Conf) : ∃ N, PS (H0 c) 0 N (begS c 7) [] := by
 have hb : ∀ v, v < 7 → (begS c 7).at v = newR v (begH c) := fun v hv => by
  rcases (by omega : v = 0 ∨ v = 1 ∨ v = 2 ∨ v = 3 ∨ v = 4 ∨ v = 5 ∨ v = 6) with rfl | rfl | rfl | rfl | rfl | rfl | rfl <;> rfl
 have no : ∀ {n : Nat} {x : Ent}, ([] : List Ent)[n]? = some x → False := fun h => by simp at h
 have hS : Static (H0 c) := {
  llm := fun t n x hx => (no hx).elim
  lle := fun t x hx => absurd hx List.not_mem_nil
  led := fun t h => absurd rfl h
  akl := fun v t n h => False.elim h
  vi := fun v T c' D t n x h => False.elim h
  vu := fun v T c' D c'' D' h => False.elim h
  cm := fun t n k W h => False.elim h
  own := fun T a x hx => (no hx).elim
  old := fun T a x b y hx => (no hx).elim
  nr := fun T a x hx => (no hx).elim }
 refine ⟨fun v => ndR ((begS c 7).at v) [], ⟨hS, fun v T c' D h => False.elim h, fun v hv => ?_⟩, fun v hv => ⟨0, [], Nat.le_refl _, rfl, ?_⟩, fun y hy => absurd hy List.not_mem_nil⟩
 ·show NI (H0 c) v (ndR ((begS c 7).at v) [])
  rw [hb v hv]
  refine ⟨fun n x hx => (no hx).elim, fun x hx => absurd hx List.not_mem_nil, .inl rfl, fun T c' D h => False.elim h, fun t n h => False.elim h, fun e => ?_, fun e => ?_⟩
  ·exact absurd e (by show ¬ (0 : Int) = 2; decide)
  ·exact absurd e (by show ¬ (0 : Int) = 3; decide)
 ·rw [hb v hv]
  exact ⟨rfl, Nat.le_refl _, rfl, rfl, rfl⟩
end Go.Proofs
