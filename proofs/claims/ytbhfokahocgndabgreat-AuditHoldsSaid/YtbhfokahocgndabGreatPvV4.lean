import Derived.Test.YtbhfokahocgndabGreatC24
import Derived.KernelRfl
import Derived.Test.YtbhfokahocgndabGreatC13
import Derived.Test.YtbhfokahocgndabGreatPvN
import Derived.Test.YtbhfokahocgndabGreatPvX
import Derived.Test.YtbhfokahocgndabGreatC1
import Derived.Test.YtbhfokahocgndabGreatC5
import Derived.Test.YtbhfokahocgndabGreatY3
/- A call that writes, its boxes zda back in one go: what they hold then is given, and checked by the kernel. -/
set_option linter.unusedSimpArgs false
set_option linter.unusedVariables false
namespace Go.Pv
theorem za3 {P : Program} {f : Nat} {ps qs : List PV} {r r2 : PV} {b bx bx' wb : List (Nat × List PV)} {o ob ob' : List (Nat × Option (Bool × Nat × List (List PV)))} {kc ko : List (Nat × Nat)} {kc2 : List (Nat × Nat)}
    {NM : List (Nat × Option (Bool × Nat × List (List PV))) → Bool} {K : List (Nat × Option (Bool × Nat × List (List PV))) → PV → List (Nat × List PV) → Prop}
    (h : CtrE P f qs bx ob r bx' ob') (e1 : ps = qs) (e2 : b = bx) (e3 : o = ob) (er : shE kc ko r = r2) (eb : tkA (shEL kc ko) bx' kc2 = wb) (k : okK (NM ob') (K ob' r2 wb)) :
    ∃ r bx' ob', CtrE P f ps b o r bx' ob' ∧ okK (NM ob') (shEK kc ko r fun r' => tkBK kc ko bx' kc2 fun wb => K ob' r' wb) := by
 subst e1 e2 e3
 refine ⟨r, bx', ob', h, ?_⟩
 rw [zpt, er, zo1, eb]
 exact k
theorem cFast {P : Program} {f : Nat} {ps qs : List PV} {r r2 : PV} {b bx bx' wb : List (Nat × List PV)} {o ob ob' : List (Nat × Option (Bool × Nat × List (List PV)))} {kc ko : List (Nat × Nat)} {kc2 : List (Nat × Nat)}
    {NM : List (Nat × Option (Bool × Nat × List (List PV))) → Bool} {K : List (Nat × Option (Bool × Nat × List (List PV))) → PV → List (Nat × List PV) → Prop}
    (h : CtrE P f qs bx ob r bx' ob') (k : okK (NM ob') (K ob' r2 wb)) (e1 : ps = qs := by kernel_rfl) (e2 : b = bx := by kernel_rfl) (e3 : o = ob := by kernel_rfl) (er : shE kc ko r = r2 := by kernel_rfl) (eb : tkA (shEL kc ko) bx' kc2 = wb := by kernel_rfl) :
    ∃ r bx' ob', CtrE P f ps b o r bx' ob' ∧ okK (NM ob') (shEK kc ko r fun r' => tkBK kc ko bx' kc2 fun wb => K ob' r' wb) := za3 h e1 e2 e3 er eb k
theorem zrs {M : Mem} {w : World} {sz : Nat} : ∀ {rows : List (List PV)} {cs : List Value}, (∀ r ∈ rows, r.length = sz) → RVL M w rows.flatten cs → RVR M w sz rows cs
 | [], cs, _, _ => by simp [RVR]
 | r :: rows, cs, hz, h => by
  rw [List.flatten_cons] at h
  obtain ⟨c, d, e, h1, h2⟩ := RVL.split h
  simp only [RVR]
  exact ⟨c, d, e, hz r (List.mem_cons_self ..), h1, zrs (fun x hx => hz x (List.mem_cons_of_mem _ hx)) h2⟩
theorem Ctr.onBox {P : Program} {f sz : Nat} {rows : List (List PV)} {u : Value} (h : Ctr P f [.sl sz rows] (.sc u) []) {rest : List PV} {ob : List (Nat × Option (Bool × Nat × List (List PV)))} (hz : ∀ r ∈ rows, r.length = sz) (hp : zde rows.flatten = true) :
    CtrE P f [.bs 1000000 0 rows.length] [(1000000, rows.flatten ++ rest)] ob (.sc u) [(1000000, rows.flatten ++ rest)] ob := by
 refine ⟨fun w X M vs hr hv => ?_⟩
 simp only [RVL, RV] at hv
 obtain ⟨c, r, rfl, ⟨b, hb, rfl⟩, rfl⟩ := hv
 obtain ⟨b', T, cs, hb', hown, hheap, hrv⟩ := hr.box 1000000 (rows.flatten ++ rest) rfl
 rw [hb] at hb'
 obtain rfl := Option.some.inj hb'
 obtain ⟨c1, c2, ecs, h1, h2⟩ := RVL.split hrv
 have hlt : b < w.heap.size := by
  obtain ⟨hl, _⟩ := Array.getElem?_eq_some_iff.1 hheap
  exact hl
 have hcl := Cells.of_block hheap
 have hst : ∀ x, (M.st x ∨ x = b) → x < w.heap.size := fun x hx => hx.elim (hr.stlt x) fun e => e ▸ hlt
 have hargs : RVL (zbu fun x => M.st x ∨ x = b) w [.sl sz rows] [.slice (some ⟨b, 0, none⟩) rows.length rows.length] := by
  simp only [RVL, RV]
  refine ⟨_, [], rfl, ⟨_, _, _, rfl, rfl, Nat.le_refl _, .inr ⟨b, 0, c1, rfl, .inr rfl, fun j x hj => ?_, ?_⟩⟩, rfl⟩
  ·refine hcl j x ?_
   rw [ecs, List.getElem?_append_left (by obtain ⟨hl, _⟩ := List.getElem?_eq_some_iff.1 hj; exact hl)]
   exact hj
  ·exact zrs hz (RVL.mono (M := M.cl) (M' := (zbu fun x => M.st x ∨ x = b).cl) ⟨fun _ h => Or.inl h, (fun _ _ h => by cases h), (fun _ _ h => by cases h), fun _ _ => rfl⟩ _ _ (RVL.toCl _ _ hp h1))
 have key : ∀ e w', (∃ v M', e = Ending.returned v ∧ RV M' w' (.sc u) v ∧ HRel w (fun _ => False) (Base.of fun x => M.st x ∨ x = b) M' (fun _ => none) (osMap []) w') → ∃ v M', e = Ending.returned v ∧ RV M' w' (.sc u) v ∧ HRel w X (zgi M) M' (lkA [(1000000, rows.flatten ++ rest)]) (lkA ob) w' := by
  rintro e w' ⟨v, M', he, hv', hr'⟩
  have hk : ∀ x, x < w.heap.size → w'.heap[x]? = w.heap[x]? := fun x hx => hr'.kept x hx (fun h => h)
  refine ⟨v, M, he, ?_, hr.world ⟨fun _ h => h, fun _ _ h => h, fun _ _ h => h, fun x hx => hk x (hr.stlt x hx)⟩ hr'.os hr'.tape hr'.out hr'.size hk⟩
  simp only [RV] at hv' ⊢
  exact hv'
 rcases h.run w (fun x => M.st x ∨ x = b) _ hst hargs with ⟨h1, h2⟩ | ⟨v, w', h1, h2⟩
 ·exact .inl ⟨h1, h2.mono fun e w' hh => key e w' hh⟩
 ·exact .inr ⟨v, w', h1, key _ _ h2⟩
mutual
def SubV : PV → PV → Prop
 | .nl, q => q = .nl ∨ ∃ sz, q = .sl sz []
 | .ag ps, q => ∃ qs, q = .ag qs ∧ SubVL ps qs
 | .tu ps, q => ∃ qs, q = .tu qs ∧ SubVL ps qs
 | .cl f ps, q => ∃ qs, q = .cl f qs ∧ SubVL ps qs
 | .cm f ps, q => ∃ qs, q = .cm f qs ∧ SubVL ps qs
 | .sl sz rows, q => ∃ rows', q = .sl sz rows' ∧ SubVR rows rows'
 | .ep ps, q => ∃ qs, q = .ep qs ∧ SubVL ps qs
 | .sc v, q => q = .sc v
 | .pt k off, q => q = .pt k off
 | .bs k off len, q => q = .bs k off len
 | .ow k lo len, q => q = .ow k lo len
 | .eo k i off, q => q = .eo k i off
 | .ub φ, q => q = .ub φ
 | .nn kd, q => q = .nn kd
 | .ls sz rows, q => q = .ls sz rows
 | .lp s, q => q = .lp s
 | .bad, q => q = .bad
def SubVL : List PV → List PV → Prop
 | [], qs => qs = []
 | p :: ps, qs => ∃ q r, qs = q :: r ∧ SubV p q ∧ SubVL ps r
def SubVR : List (List PV) → List (List PV) → Prop
 | [], qs => qs = []
 | p :: ps, qs => ∃ q r, qs = q :: r ∧ SubVL p q ∧ SubVR ps r
end
theorem SubVL.len : ∀ {ps qs : List PV}, SubVL ps qs → qs.length = ps.length
 | [], qs, h => by simp only [SubVL] at h; simp [h]
 | p :: ps, qs, h => by
  simp only [SubVL] at h
  obtain ⟨q, r, rfl, _, h2⟩ := h
  simp [SubVL.len h2]
theorem SubVR.len : ∀ {ps qs : List (List PV)}, SubVR ps qs → qs.length = ps.length
 | [], qs, h => by simp only [SubVR] at h; simp [h]
 | p :: ps, qs, h => by
  simp only [SubVR] at h
  obtain ⟨q, r, rfl, _, h2⟩ := h
  simp [SubVR.len h2]
mutual
theorem SubV.sound {M : Mem} {w : World} : ∀ (p q : PV) (v : Value), SubV p q → RV M w p v → RV M w q v
 | .nl, q, v, h, hv => by
  simp only [SubV] at h
  rcases h with rfl | ⟨sz, rfl⟩
  ·exact hv
  ·exact sub_nl hv
 | .ag ps, q, v, h, hv => by
  simp only [SubV] at h
  obtain ⟨qs, rfl, h⟩ := h
  simp only [RV] at hv ⊢
  obtain ⟨cs, e, r⟩ := hv
  exact ⟨cs, e, SubVL.sound ps qs _ h r⟩
 | .tu ps, q, v, h, hv => by
  simp only [SubV] at h
  obtain ⟨qs, rfl, h⟩ := h
  simp only [RV] at hv ⊢
  obtain ⟨cs, e, r⟩ := hv
  exact ⟨cs, e, SubVL.sound ps qs _ h r⟩
 | .cl f ps, q, v, h, hv => by
  simp only [SubV] at h
  obtain ⟨qs, rfl, h⟩ := h
  simp only [RV] at hv ⊢
  obtain ⟨cs, e, r⟩ := hv
  exact ⟨cs, e, SubVL.sound ps qs _ h r⟩
 | .cm f ps, q, v, h, hv => by
  simp only [SubV] at h
  obtain ⟨qs, rfl, h⟩ := h
  simp only [RV] at hv ⊢
  obtain ⟨cs, e, r⟩ := hv
  exact ⟨cs, e, SubVL.sound ps qs _ h r⟩
 | .sl sz rows, q, v, h, hv => by
  simp only [SubV] at h
  obtain ⟨rows', rfl, h⟩ := h
  simp only [RV] at hv ⊢
  obtain ⟨a, n, c, e, hn, hc, r⟩ := hv
  refine ⟨a, n, c, e, by rw [h.len]; exact hn, hc, ?_⟩
  rcases r with rfl | ⟨b, off, cs, ha, hs, hcl, hR⟩
  ·left; simpa [SubVR] using h
  ·exact .inr ⟨b, off, cs, ha, hs, hcl, SubVR.sound sz rows rows' cs h hR⟩
 | .ep ps, q, v, h, hv => by
  simp only [SubV] at h
  obtain ⟨qs, rfl, h⟩ := h
  simp only [RV] at hv ⊢
  obtain ⟨b, off, cs, e, hs, hcl, hr⟩ := hv
  exact ⟨b, off, cs, e, hs, hcl, SubVL.sound ps qs cs h hr⟩
 | .sc x, q, v, h, hv => by simp only [SubV] at h; subst h; exact hv
 | .pt .., q, v, h, hv => by simp only [SubV] at h; subst h; exact hv
 | .bs .., q, v, h, hv => by simp only [SubV] at h; subst h; exact hv
 | .ow .., q, v, h, hv => by simp only [SubV] at h; subst h; exact hv
 | .eo .., q, v, h, hv => by simp only [SubV] at h; subst h; exact hv
 | .ub .., q, v, h, hv => by simp only [SubV] at h; subst h; exact hv
 | .nn .., q, v, h, hv => by simp only [SubV] at h; subst h; exact hv
 | .ls .., q, v, h, hv => by simp only [SubV] at h; subst h; exact hv
 | .lp .., q, v, h, hv => by simp only [SubV] at h; subst h; exact hv
 | .bad, q, v, h, hv => by simp only [SubV] at h; subst h; exact hv
theorem SubVL.sound {M : Mem} {w : World} : ∀ (ps qs : List PV) (cs : List Value), SubVL ps qs → RVL M w ps cs → RVL M w qs cs
 | [], qs, cs, h, hv => by simp only [SubVL] at h; subst h; exact hv
 | p :: ps, qs, cs, h, hv => by
  simp only [SubVL] at h
  obtain ⟨q, r, rfl, h1, h2⟩ := h
  simp only [RVL] at hv ⊢
  obtain ⟨c, rr, e, h3, h4⟩ := hv
  exact ⟨c, rr, e, SubV.sound p q c h1 h3, SubVL.sound ps r rr h2 h4⟩
theorem SubVR.sound {M : Mem} {w : World} (sz : Nat) : ∀ (ps qs : List (List PV)) (cs : List Value), SubVR ps qs → RVR M w sz ps cs → RVR M w sz qs cs
 | [], qs, cs, h, hv => by simp only [SubVR] at h; subst h; exact hv
 | p :: ps, qs, cs, h, hv => by
  simp only [SubVR] at h
  obtain ⟨q, r, rfl, h1, h2⟩ := h
  simp only [RVR] at hv ⊢
  obtain ⟨c1, c2, e, hl, h3, h4⟩ := hv
  exact ⟨c1, c2, e, h1.len.trans hl, SubVL.sound p q c1 h1 h3, SubVR.sound sz ps r c2 h2 h4⟩
end
theorem Ctr.deep {P : Program} {f : Nat} {ps qs : List PV} {r : PV} {os : List (Nat × List (List PV))} (h : Ctr P f qs r os) (hs : SubVL ps qs) : Ctr P f ps r os :=
 ⟨fun w st vs hst hv => h.run w st vs hst (SubVL.sound ps qs vs hs hv)⟩
theorem zaz {P : Program} {f : Nat} {ps qs : List PV} {r : PV} {os : List (Nat × List (List PV))} {K : PV → List (Nat × List (List PV)) → Prop} (h : Ctr P f qs r os) (hs : SubVL ps qs) (k : K r os) : ∃ r os, Ctr P f ps r os ∧ K r os := ⟨r, os, h.deep hs, k⟩
mutual
theorem SubV.refl : ∀ p : PV, SubV p p
 | .nl => by simp [SubV]
 | .ag ps => by simp only [SubV]; exact ⟨ps, rfl, SubVL.refl ps⟩
 | .tu ps => by simp only [SubV]; exact ⟨ps, rfl, SubVL.refl ps⟩
 | .cl f ps => by simp only [SubV]; exact ⟨ps, rfl, SubVL.refl ps⟩
 | .cm f ps => by simp only [SubV]; exact ⟨ps, rfl, SubVL.refl ps⟩
 | .sl sz rows => by simp only [SubV]; exact ⟨rows, rfl, SubVR.refl rows⟩
 | .ep ps => by simp only [SubV]; exact ⟨ps, rfl, SubVL.refl ps⟩
 | .sc x => by simp [SubV]
 | .pt .. => by simp [SubV]
 | .bs .. => by simp [SubV]
 | .ow .. => by simp [SubV]
 | .eo .. => by simp [SubV]
 | .ub .. => by simp [SubV]
 | .nn .. => by simp [SubV]
 | .ls .. => by simp [SubV]
 | .lp .. => by simp [SubV]
 | .bad => by simp [SubV]
theorem SubVL.refl : ∀ ps : List PV, SubVL ps ps
 | [] => by simp [SubVL]
 | p :: ps => by simp only [SubVL]; exact ⟨p, ps, rfl, SubV.refl p, SubVL.refl ps⟩
theorem SubVR.refl : ∀ ps : List (List PV), SubVR ps ps
 | [] => by simp [SubVR]
 | p :: ps => by simp only [SubVR]; exact ⟨p, ps, rfl, SubVL.refl p, SubVR.refl ps⟩
end
theorem za7 {sz : Nat} : SubV .nl (.sl sz []) := by simp only [SubV]; exact .inr ⟨sz, rfl⟩
theorem zbi {sz : Nat} {rows rows' : List (List PV)} (h : SubVR rows rows') : SubV (.sl sz rows) (.sl sz rows') := by simp only [SubV]; exact ⟨rows', rfl, h⟩
theorem zbg {sz n : Nat} {r : List (List PV)} (h : r.length = n) : SubV (.sl sz ((r.drop 0).take n)) (.sl sz r) := by subst h; rw [List.drop_zero, List.take_length]; exact SubV.refl _
theorem zbf {ps qs : List PV} (h : SubVL ps qs) : SubV (.ag ps) (.ag qs) := by simp only [SubV]; exact ⟨qs, rfl, h⟩
theorem zbh {ps qs : List PV} (h : SubVL ps qs) : SubV (.ep ps) (.ep qs) := by simp only [SubV]; exact ⟨qs, rfl, h⟩
theorem zas {p q : PV} {ps qs : List PV} (h1 : SubV p q) (h2 : SubVL ps qs) : SubVL (p :: ps) (q :: qs) := by simp only [SubVL]; exact ⟨q, qs, rfl, h1, h2⟩
theorem zay : SubVL [] [] := by simp [SubVL]
theorem zat {p q : List PV} {ps qs : List (List PV)} (h1 : SubVL p q) (h2 : SubVR ps qs) : SubVR (p :: ps) (q :: qs) := by simp only [SubVR]; exact ⟨q, qs, rfl, h1, h2⟩
theorem zax : SubVR [] [] := by simp [SubVR]
end Go.Pv
namespace Go.Proofs
open Go.Pv
set_option maxRecDepth 100000
theorem z0d {α : Type} {f : α → List PV} {l : List α} {n : Nat} {x : List PV} (hn : n = (l.map f).length) (y : α) (hx : x = f y) : (l.map f).take n ++ [x] = (l ++ [y]).map f := by
 subst hn; subst hx; simp [List.take_of_length_le]
theorem zaw {b : Bool} {sz sz' : Nat} {r r' : List (List PV)} (h : sz = sz') (h2 : r = r') : (b, sz, r) = (b, sz', r') := by subst h; subst h2; rfl
theorem z0o (f w l x : Bool) : ((kind4 f w l x).toList == (ByteArray.mk #[102, 117, 108, 108]).toList) = f := by
 cases f <;> cases w <;> cases l <;> cases x <;> decide +kernel
theorem z0n (f w l x : Bool) (h : one4 f w l x = true) : ((kind4 f w l x).toList == (ByteArray.mk #[119, 105, 116]).toList) = w := by
 revert h; cases f <;> cases w <;> cases l <;> cases x <;> decide +kernel
theorem zyd (f w l x : Bool) (h : one4 f w l x = true) : ((kind4 f w l x).toList == (ByteArray.mk #[108, 101, 97, 114, 110]).toList) = l := by
 revert h; cases f <;> cases w <;> cases l <;> cases x <;> decide +kernel
theorem zyv (f w l x : Bool) (h : one4 f w l x = true) : ((kind4 f w l x).toList == (ByteArray.mk #[108, 101, 97, 114, 110, 119, 105, 116]).toList) = x := by
 revert h; cases f <;> cases w <;> cases l <;> cases x <;> decide +kernel
noncomputable def zcz (c : Conf) (n : Nat) : List Conf :=
 if tb c.full n then [dele c n] else if tb c.wit n then [dele c n] else if tb c.learn n then [dele c n, proL c n] else if tb c.lwit n then [dele c n, proX c n] else [addL c n, addX c n]
noncomputable def zbt (c : Conf) : Nat → List Conf
 | 0 => []
 | n + 1 => zbt c n ++ zcz c n
theorem zo3 (c : Conf) (n : Nat) : (zcz c n).length ≤ 2 := by unfold zcz; (repeat' split) <;> simp
theorem zfx (c : Conf) : ∀ n, (zbt c n).length ≤ 2 * n
 | 0 => by simp [zbt]
 | n + 1 => by have := zfx c n; have := zo3 c n; simp only [zbt, List.length_append]; omega
theorem ze2 {x : Int} {n : Nat} (hx : Bits7 x) (hn : n < 7) (h : tb x n = false) : bandn x (shl 1 n) = x := ext7 (zln hx) hx fun i _ => by
 rw [zfu, zec n i (by omega)]
 by_cases e : n = i
 ·subst e; simp [h]
 ·simp [e]
set_option maxHeartbeats 2000000 in
theorem zq1 (c : Conf) (hk : Cok c) : Ctr Tryz.prog 170 [.ag c.enc] (.ow 0 0 ((zbt c 7).map Conf.enc).length) [(4, (zbt c 7).map Conf.enc)] := by
 refine sBody Tryz.func170 ?_; conv => whnf
 refine ze8 3 1000 4 rfl rfl ?_
 conv => whnf
 refine tFor (fun i : Nat => i ≤ 7) (fun i => [(4, iv i), (3, .ow 1000 0 (zbt c i).length)]) (fun _ => [(1, c.enc)]) (fun i => [(1000, some (false, 4, (zbt c i).map Conf.enc))]) [(1000, 1000)] (fun i => 7 - i) 0 (by decide) ?_ ?_
 ·conv => whnf
  exact wkD
 intro n hn
 conv => whnf
 (refine tSp (fun h => ?_) (fun h => ?_) <;> conv => whnf)
 ·have hn : n < 7 := by omega
  have one := hk.one n
  have hlen := zfx c n
  have hb := zu2 hn
  have hsu : ishl IntKind.i64 1 (IntKind.u64.wrap (n : Int)) = shl 1 n := shl_u hn
  have bf := hk.f
  have bw := hk.w
  have bl := hk.l
  have bx := hk.x
  unfold Bits7 at bf bw bl bx
  have q1 := z0o (tb c.full n) (tb c.wit n) (tb c.learn n) (tb c.lwit n)
  have q2 := z0n _ _ _ _ one
  have q3 := zyd _ _ _ _ one
  have q4 := zyv _ _ _ _ one
  rw [← kind_4 c hn] at q1 q2 q3 q4
  refine ⟨⟨by decide, zen _⟩, ?_⟩
  conv => whnf
  ((try (refine Exists.intro none ?_; conv => whnf)); (with_reducible refine zaa (zms c n) ?_); conv => whnf)
  cases hf : tb c.full n
  all_goals rw [hf] at q1
  ·((first | refine tYesA ?_ | refine tNoA ?_ | refine tSp (fun h => ?_) (fun h => ?_)) <;> conv => whnf)
   cases hw : tb c.wit n
   all_goals rw [hw] at q2
   ·((first | refine tYesA ?_ | refine tNoA ?_ | refine tSp (fun h => ?_) (fun h => ?_)) <;> conv => whnf)
    cases hl : tb c.learn n
    all_goals rw [hl] at q3
    ·((first | refine tYesA ?_ | refine tNoA ?_ | refine tSp (fun h => ?_) (fun h => ?_)) <;> conv => whnf)
     cases hx : tb c.lwit n
     all_goals rw [hx] at q4
     ·((first | refine tYesA ?_ | refine tNoA ?_ | refine tSp (fun h => ?_) (fun h => ?_)) <;> conv => whnf)
      have e : zcz c n = [addL c n, addX c n] := by unfold zcz; rw [hf, hw, hl, hx]; rfl
      have w1' : IntKind.i64.wrap (c.learn + ishl IntKind.i64 1 (IntKind.u64.wrap n)) = bor c.learn (shl 1 n) := by rw [hsu, zai (by omega) (by omega), zi4 hk.l hn hl]
      have w2' : IntKind.i64.wrap (c.lwit + ishl IntKind.i64 1 (IntKind.u64.wrap n)) = bor c.lwit (shl 1 n) := by rw [hsu, zai (by omega) (by omega), zi4 hk.x hn hx]
      (refine And.intro rfl ?_; (conv => whnf); refine And.intro (And.intro (And.intro (by kernel_rfl) (And.intro (by simp) (And.intro (small (by simp only [List.length_cons, List.length_nil]; omega) (by kernel_rfl)) (And.intro (zag (by simp only [List.length_cons, List.length_nil]; omega)) (by intro r hr; rw [List.mem_singleton.1 hr]; rfl))))) (And.intro (by decide) rfl)) ?_; conv => whnf)
      (refine And.intro rfl ?_; (conv => whnf); refine And.intro (And.intro (And.intro (by kernel_rfl) (And.intro (by simp) (And.intro (small (by simp only [List.length_cons, List.length_nil]; omega) (by kernel_rfl)) (And.intro (zag (by simp only [List.length_cons, List.length_nil]; omega)) (by intro r hr; rw [List.mem_singleton.1 hr]; rfl))))) (And.intro (by decide) rfl)) ?_; conv => whnf)
      refine ⟨n + 1, [(1000, 608)], ⟨by omega, by omega⟩, ?_⟩
      conv => whnf
      (refine wkx ?_; refine ⟨?_, ?_, ?_⟩ <;> (conv => whnf) <;> repeat' first | exact wkc | (with_reducible refine And.intro ?_ ?_) <;> first | exact wks | refine wko ?_ | refine wki ?_ | refine wkb ?_ | (refine zal ?_; conv => whnf) | (refine zad ?_; conv => whnf) | (refine zae ?_; conv => whnf) | conv => whnf)
      all_goals first | exact w1 (by omega) | (simp [zbt, e]; done) | (refine zaw (by kernel_rfl) ?_; simp [List.take_of_length_le, zbt, e, w1', w2']; done) | rfl
     ·((first | refine tYesA ?_ | refine tNoA ?_ | refine tSp (fun h => ?_) (fun h => ?_)) <;> conv => whnf)
      have e : zcz c n = [dele c n, proX c n] := by unfold zcz; rw [hf, hw, hl, hx]; rfl
      have ed : dele c n = ⟨c.full, c.wit, c.learn, bandn c.lwit (shl 1 n)⟩ := by unfold dele; rw [ze2 hk.f hn hf, ze2 hk.w hn hw, ze2 hk.l hn hl]
      have w1' : IntKind.i64.wrap (c.lwit - ishl IntKind.i64 1 (IntKind.u64.wrap n)) = bandn c.lwit (shl 1 n) := by rw [hsu, zai (by omega) (by omega), zl9 hk.x hn hx]
      have w2' : IntKind.i64.wrap (c.wit + ishl IntKind.i64 1 (IntKind.u64.wrap n)) = bor c.wit (shl 1 n) := by rw [hsu, zai (by omega) (by omega), zi4 hk.w hn hw]
      (refine And.intro rfl ?_; (conv => whnf); refine And.intro (And.intro (And.intro (by kernel_rfl) (And.intro (by simp) (And.intro (small (by simp only [List.length_cons, List.length_nil]; omega) (by kernel_rfl)) (And.intro (zag (by simp only [List.length_cons, List.length_nil]; omega)) (by intro r hr; rw [List.mem_singleton.1 hr]; rfl))))) (And.intro (by decide) rfl)) ?_; conv => whnf)
      (refine And.intro rfl ?_; (conv => whnf); refine And.intro (And.intro (And.intro (by kernel_rfl) (And.intro (by simp) (And.intro (small (by simp only [List.length_cons, List.length_nil]; omega) (by kernel_rfl)) (And.intro (zag (by simp only [List.length_cons, List.length_nil]; omega)) (by intro r hr; rw [List.mem_singleton.1 hr]; rfl))))) (And.intro (by decide) rfl)) ?_; conv => whnf)
      refine ⟨n + 1, [(1000, 1600)], ⟨by omega, by omega⟩, ?_⟩
      conv => whnf
      (refine wkx ?_; refine ⟨?_, ?_, ?_⟩ <;> (conv => whnf) <;> repeat' first | exact wkc | (with_reducible refine And.intro ?_ ?_) <;> first | exact wks | refine wko ?_ | refine wki ?_ | refine wkb ?_ | (refine zal ?_; conv => whnf) | (refine zad ?_; conv => whnf) | (refine zae ?_; conv => whnf) | conv => whnf)
      all_goals first | exact w1 (by omega) | (simp [zbt, e]; done) | (refine zaw (by kernel_rfl) ?_; simp [List.take_of_length_le, zbt, e, ed, w1', w2']; done) | rfl
    ·((first | refine tYesA ?_ | refine tNoA ?_ | refine tSp (fun h => ?_) (fun h => ?_)) <;> conv => whnf)
     have hx : tb c.lwit n = false := by have := hk.lx n; rw [hl] at this; simpa using this
     have e : zcz c n = [dele c n, proL c n] := by unfold zcz; rw [hf, hw, hl]; rfl
     have ed : dele c n = ⟨c.full, c.wit, bandn c.learn (shl 1 n), c.lwit⟩ := by unfold dele; rw [ze2 hk.f hn hf, ze2 hk.w hn hw, ze2 hk.x hn hx]
     have w1' : IntKind.i64.wrap (c.learn - ishl IntKind.i64 1 (IntKind.u64.wrap n)) = bandn c.learn (shl 1 n) := by rw [hsu, zai (by omega) (by omega), zl9 hk.l hn hl]
     have w2' : IntKind.i64.wrap (c.full + ishl IntKind.i64 1 (IntKind.u64.wrap n)) = bor c.full (shl 1 n) := by rw [hsu, zai (by omega) (by omega), zi4 hk.f hn hf]
     (refine And.intro rfl ?_; (conv => whnf); refine And.intro (And.intro (And.intro (by kernel_rfl) (And.intro (by simp) (And.intro (small (by simp only [List.length_cons, List.length_nil]; omega) (by kernel_rfl)) (And.intro (zag (by simp only [List.length_cons, List.length_nil]; omega)) (by intro r hr; rw [List.mem_singleton.1 hr]; rfl))))) (And.intro (by decide) rfl)) ?_; conv => whnf)
     (refine And.intro rfl ?_; (conv => whnf); refine And.intro (And.intro (And.intro (by kernel_rfl) (And.intro (by simp) (And.intro (small (by simp only [List.length_cons, List.length_nil]; omega) (by kernel_rfl)) (And.intro (zag (by simp only [List.length_cons, List.length_nil]; omega)) (by intro r hr; rw [List.mem_singleton.1 hr]; rfl))))) (And.intro (by decide) rfl)) ?_; conv => whnf)
     refine ⟨n + 1, [(1000, 1280)], ⟨by omega, by omega⟩, ?_⟩
     conv => whnf
     (refine wkx ?_; refine ⟨?_, ?_, ?_⟩ <;> (conv => whnf) <;> repeat' first | exact wkc | (with_reducible refine And.intro ?_ ?_) <;> first | exact wks | refine wko ?_ | refine wki ?_ | refine wkb ?_ | (refine zal ?_; conv => whnf) | (refine zad ?_; conv => whnf) | (refine zae ?_; conv => whnf) | conv => whnf)
     all_goals first | exact w1 (by omega) | (simp [zbt, e]; done) | (refine zaw (by kernel_rfl) ?_; simp [List.take_of_length_le, zbt, e, ed, w1', w2']; done) | rfl
   ·((first | refine tYesA ?_ | refine tNoA ?_ | refine tSp (fun h => ?_) (fun h => ?_)) <;> conv => whnf)
    have hl : tb c.learn n = false := by have := hk.wl n; rw [hw] at this; simpa using this
    have hx : tb c.lwit n = false := by have := hk.wx n; rw [hw] at this; simpa using this
    have e : zcz c n = [dele c n] := by unfold zcz; rw [hf, hw]; rfl
    have ed : dele c n = ⟨c.full, bandn c.wit (shl 1 n), c.learn, c.lwit⟩ := by unfold dele; rw [ze2 hk.f hn hf, ze2 hk.l hn hl, ze2 hk.x hn hx]
    have w1' : IntKind.i64.wrap (c.wit - ishl IntKind.i64 1 (IntKind.u64.wrap n)) = bandn c.wit (shl 1 n) := by rw [hsu, zai (by omega) (by omega), zl9 hk.w hn hw]
    (refine And.intro rfl ?_; (conv => whnf); refine And.intro (And.intro (And.intro (by kernel_rfl) (And.intro (by simp) (And.intro (small (by simp only [List.length_cons, List.length_nil]; omega) (by kernel_rfl)) (And.intro (zag (by simp only [List.length_cons, List.length_nil]; omega)) (by intro r hr; rw [List.mem_singleton.1 hr]; rfl))))) (And.intro (by decide) rfl)) ?_; conv => whnf)
    refine ⟨n + 1, [(1000, 960)], ⟨by omega, by omega⟩, ?_⟩
    conv => whnf
    (refine wkx ?_; refine ⟨?_, ?_, ?_⟩ <;> (conv => whnf) <;> repeat' first | exact wkc | (with_reducible refine And.intro ?_ ?_) <;> first | exact wks | refine wko ?_ | refine wki ?_ | refine wkb ?_ | (refine zal ?_; conv => whnf) | (refine zad ?_; conv => whnf) | (refine zae ?_; conv => whnf) | conv => whnf)
    all_goals first | exact w1 (by omega) | (simp [zbt, e]; done) | (refine zaw (by kernel_rfl) ?_; simp [List.take_of_length_le, zbt, e, ed, w1']; done) | rfl
  ·((first | refine tYesA ?_ | refine tNoA ?_ | refine tSp (fun h => ?_) (fun h => ?_)) <;> conv => whnf)
   have hw : tb c.wit n = false := by have := hk.fw n; rw [hf] at this; simpa using this
   have hl : tb c.learn n = false := by have := hk.fl n; rw [hf] at this; simpa using this
   have hx : tb c.lwit n = false := by have := hk.fx n; rw [hf] at this; simpa using this
   have e : zcz c n = [dele c n] := by unfold zcz; rw [hf]; rfl
   have ed : dele c n = ⟨bandn c.full (shl 1 n), c.wit, c.learn, c.lwit⟩ := by unfold dele; rw [ze2 hk.w hn hw, ze2 hk.l hn hl, ze2 hk.x hn hx]
   have w1' : IntKind.i64.wrap (c.full - ishl IntKind.i64 1 (IntKind.u64.wrap n)) = bandn c.full (shl 1 n) := by rw [hsu, zai (by omega) (by omega), zl9 hk.f hn hf]
   (refine And.intro rfl ?_; (conv => whnf); refine And.intro (And.intro (And.intro (by kernel_rfl) (And.intro (by simp) (And.intro (small (by simp only [List.length_cons, List.length_nil]; omega) (by kernel_rfl)) (And.intro (zag (by simp only [List.length_cons, List.length_nil]; omega)) (by intro r hr; rw [List.mem_singleton.1 hr]; rfl))))) (And.intro (by decide) rfl)) ?_; conv => whnf)
   refine ⟨n + 1, [(1000, 784)], ⟨by omega, by omega⟩, ?_⟩
   conv => whnf
   (refine wkx ?_; refine ⟨?_, ?_, ?_⟩ <;> (conv => whnf) <;> repeat' first | exact wkc | (with_reducible refine And.intro ?_ ?_) <;> first | exact wks | refine wko ?_ | refine wki ?_ | refine wkb ?_ | (refine zal ?_; conv => whnf) | (refine zad ?_; conv => whnf) | (refine zae ?_; conv => whnf) | conv => whnf)
   all_goals first | exact w1 (by omega) | (simp [zbt, e]; done) | (refine zaw (by kernel_rfl) ?_; simp [List.take_of_length_le, zbt, e, ed, w1']; done) | rfl
 ·have : n = 7 := by omega
  subst this
  exact zb6 [(0, 1000)] rfl ⟨rfl, True.intro⟩ (zb8 rfl rfl (by simp))
noncomputable def nearL (a b : Conf) : Bool := confB a && (confB b && ((zbt a 7).any (fun x => decide (x = b)) || decide (a = b)))
theorem zva (a b : Conf) : Ctr Tryz.prog 169 [.ag a.enc, .ag b.enc] (bv (nearL a b)) [] := by
 refine sBody Tryz.func169 ?_; conv => whnf
 ((try (refine Exists.intro none ?_; conv => whnf)); (with_reducible refine zaa (zhl a) ?_); conv => whnf)
 (refine tSp (fun h => ?_) (fun h => ?_) <;> conv => whnf)
 ·exact zab rfl (by simp [nearL, h])
 have ha := h
 ((try (refine Exists.intro none ?_; conv => whnf)); (with_reducible refine zaa (zhl b) ?_); conv => whnf)
 (refine tSp (fun h => ?_) (fun h => ?_) <;> conv => whnf)
 ·exact zab rfl (by simp [nearL, ha, h])
 have hb := h
 have hA := (zcf a).1 ha
 ((try (refine Exists.intro none ?_; conv => whnf)); (with_reducible refine zaa (zq1 a hA) ?_); conv => whnf)
 (refine Exists.intro _ (And.intro rfl (And.intro (by intro q hq; first | (cases hq; done) | (simp only [List.mem_cons, List.not_mem_nil, or_false] at hq; rcases hq with rfl | rfl <;> (simp only [List.length_cons, List.length_nil]; omega)) | (simp only [List.mem_cons, List.not_mem_nil, or_false] at hq; subst hq; simp only [List.length_cons, List.length_nil]; omega)) (And.intro (by intro i hi; simp only [List.length_cons, List.length_nil, Nat.lt_one_iff, Nat.zero_add] at hi; subst hi; rfl) ?_))); conv => whnf)
 have hlen : (zbt a 7).length ≤ 14 := zfx a 7
 refine ze1 mixed (by kernel_rfl) (fun i : Nat => i ≤ (zbt a 7).length ∧ ∀ j (hj : j < (zbt a 7).length), j < i → decide ((zbt a 7)[j]'hj = b) = false) (fun i => [(6, iv i)]) (fun _ => [(2, a.enc), (3, b.enc)]) [(256, 256)] (fun i => (zbt a 7).length - i) 0 ⟨Nat.zero_le _, fun j _ h => absurd h (Nat.not_lt_zero _)⟩ ?_ ?_
 ·conv => whnf
  exact wkD
 rintro i ⟨hi, hp⟩
 conv => whnf
 (refine tSp (fun h => ?_) (fun h => ?_) <;> conv => whnf)
 ·simp only [List.length_map] at h
  have hlt : i < (zbt a 7).length := by omega
  refine ⟨by simp only [List.length_map]; omega, ?_⟩
  conv => whnf
  refine ⟨_, by rw [Nat.zero_add]; exact zbp hlt, ?_⟩
  conv => whnf
  ((try (refine Exists.intro none ?_; conv => whnf)); (with_reducible refine zaa (zkj ((zbt a 7)[i]'hlt) b) ?_); conv => whnf)
  (refine tSp (fun h => ?_) (fun h => ?_) <;> conv => whnf)
  ·refine zab rfl ?_
   have := any_at (p := fun x : Conf => decide (x = b)) hlt (by simpa using h)
   simp [nearL, ha, hb, this]
  ·refine ⟨i + 1, ⟨⟨by omega, ?_⟩, by omega⟩, ?_⟩
   ·intro j hj hji
    by_cases e : j = i
    ·subst e; simpa using h
    ·exact hp j hj (by omega)
   ·conv => whnf
    exact wkD
 ·simp only [List.length_map] at h
  have : i = (zbt a 7).length := by omega
  subst this
  ((try (refine Exists.intro none ?_; conv => whnf)); (with_reducible refine zaa (zkj a b) ?_); conv => whnf)
  refine zab rfl ?_
  have := zx3 (p := fun x : Conf => decide (x = b)) fun j hj => hp j hj hj
  simp only [nearL, ha, hb, this, Bool.true_and, Bool.false_or]
theorem zpu (a : Hrd) (hm : a.log.length ≤ maxLen) (hb : 0 ≤ a.base) (hs : a.base + a.log.length < 9223372036854775808) (i : Int) (hi : isI i) (t : Int) : Ctr Tryz.prog 198 [.ag a.enc, iv i, iv t] (bv (fits a i t)) [] := by
 refine sBody Tryz.func198 ?_; conv => whnf
 (refine tSp (fun h => ?_) (fun h => ?_) <;> conv => whnf)
 ·((try (refine Exists.intro none ?_; conv => whnf)); (with_reducible refine zaa (zj1 a hm hb hs i hi) ?_); conv => whnf)
  exact zab rfl (by simp [fits, h])
 ·exact zab rfl (by simp [fits, h])
abbrev hzv : List PV := [iv 0, iv 0, iv 0, iv 0, iv 0, iv 0, iv 0, iv 0, .nl, .nl]
def putM : List Ent → List Ent → List Ent
 | g, [] => g
 | [], x :: l => x :: l
 | y :: g, x :: l => if y.term = x.term then y :: putM g l else x :: l
def putG (g : List Ent) (n : Nat) (l : List Ent) : List Ent := g.take n ++ putM (g.drop n) l
def putH (h : Hrd) (i : Int) (l : List Ent) : Hrd := { h with log := putG h.log (i - h.base).toNat l }
def alike (g : List Ent) (n : Nat) (l : List Ent) (j : Nat) : Prop := ∀ k, k < j → ∃ h1 : n + k < g.length, ∃ h2 : k < l.length, (g[n + k]'h1).term = (l[k]'h2).term
theorem zr3 : ∀ (g l : List Ent), (∀ k, k < l.length → ∃ h1 : k < g.length, ∃ h2 : k < l.length, (g[k]'h1).term = (l[k]'h2).term) → putM g l = g
 | g, [], _ => by cases g <;> rfl
 | [], x :: l, h => by obtain ⟨h1, _⟩ := h 0 (by simp); simp at h1
 | y :: g, x :: l, h => by
  obtain ⟨_, _, h0⟩ := h 0 (by simp)
  simp only [List.getElem_cons_zero] at h0
  rw [putM, if_pos h0, zr3 g l]
  intro k hk
  obtain ⟨h1, h2, h3⟩ := h (k + 1) (by simpa using hk)
  simp only [List.getElem_cons_succ] at h3
  exact ⟨by simpa using h1, hk, h3⟩
theorem zw4 : ∀ (g l : List Ent) (j : Nat), (∀ k, k < j → ∃ h1 : k < g.length, ∃ h2 : k < l.length, (g[k]'h1).term = (l[k]'h2).term) → (hj : j < l.length) → (∀ h1 : j < g.length, (g[j]'h1).term ≠ (l[j]'hj).term) → putM g l = g.take j ++ l.drop j
 | g, [], j, _, hj, _ => by simp at hj
 | [], x :: l, 0, _, _, _ => rfl
 | [], x :: l, j + 1, h, _, _ => by obtain ⟨h1, _⟩ := h 0 (by omega); simp at h1
 | y :: g, x :: l, 0, _, _, hn => by
  have := hn (by simp)
  simp only [List.getElem_cons_zero] at this
  rw [putM, if_neg this]; rfl
 | y :: g, x :: l, j + 1, h, hj, hn => by
  obtain ⟨_, _, h0⟩ := h 0 (by omega)
  simp only [List.getElem_cons_zero] at h0
  rw [putM, if_pos h0, zw4 g l j ?_ (by simpa using hj) ?_]
  ·rfl
  ·intro k hk
   obtain ⟨h1, h2, h3⟩ := h (k + 1) (by omega)
   simp only [List.getElem_cons_succ] at h3
   exact ⟨by simpa using h1, by simpa using h2, h3⟩
  ·intro h1
   have := hn (by simpa using h1)
   simpa using this
theorem zyb {g l : List Ent} {n : Nat} (h : alike g n l l.length) : putG g n l = g := by
 unfold putG
 rw [zr3, List.take_append_drop]
 intro k hk
 obtain ⟨h1, h2, h3⟩ := h k hk
 exact ⟨by rw [List.length_drop]; omega, h2, by rw [List.getElem_drop]; exact h3⟩
theorem putG_at {g l : List Ent} {n j : Nat} (h : alike g n l j) (hn : n ≤ g.length) (hj : j < l.length) (hd : ∀ h1 : n + j < g.length, (g[n + j]'h1).term ≠ (l[j]'hj).term) : putG g n l = g.take (n + j) ++ l.drop j := by
 unfold putG
 rw [zw4 (g.drop n) l j ?_ hj ?_, ← List.append_assoc]
 ·congr 1
  rw [List.take_add]
 ·intro k hk
  obtain ⟨h1, h2, h3⟩ := h k hk
  exact ⟨by rw [List.length_drop]; omega, h2, by rw [List.getElem_drop]; exact h3⟩
 ·intro h1
  rw [List.getElem_drop]
  exact hd (by rw [List.length_drop] at h1; omega)
noncomputable def putHE (h : Hrd) (i : Int) (l : List Ent) : Int := if hardB h = true then (if (h.base ≤ i ∧ i ≤ lastI h) ∧ rowB l (zbk h i) h.term = true then 0 else 1) else 6
theorem zwa {h : Hrd} {i : Int} {l : List Ent} (e : putHE h i l = 0) : hardB h = true ∧ (h.base ≤ i ∧ i ≤ lastI h) ∧ rowB l (zbk h i) h.term = true := by
 unfold putHE at e
 by_cases h1 : hardB h = true
 ·rw [if_pos h1] at e
  by_cases h2 : (h.base ≤ i ∧ i ≤ lastI h) ∧ rowB l (zbk h i) h.term = true
  ·exact ⟨h1, h2⟩
  ·rw [if_neg h2] at e; omega
 ·rw [if_neg h1] at e; omega
def resV (e : Int) (x : Hrd) : PV := if e = 0 then .tu [.ag (x.own 0), iv 0] else .tu [.ag hzv, iv e]
def resO (e : Int) (x : Hrd) : List (Nat × List (List PV)) := if e = 0 then x.obs else []
def resW (e : Int) (x : Hrd) : PV := if e = 0 then .tu [.ag x.enc, iv 0] else .tu [.ag hzv, iv e]
theorem zlz {e : Int} {x : Hrd} (he : e = 0) : resV e x = .tu [.ag (x.own 0), iv 0] ∧ resO e x = x.obs ∧ resW e x = .tu [.ag x.enc, iv 0] := by
 subst he; exact ⟨rfl, rfl, rfl⟩
theorem zem {e : Int} {x : Hrd} (he : ¬ e = 0) : resV e x = .tu [.ag hzv, iv e] ∧ resO e x = [] ∧ resW e x = .tu [.ag hzv, iv e] := by
 unfold resV resO resW
 rw [if_neg he, if_neg he, if_neg he]; exact ⟨rfl, rfl, rfl⟩
theorem za2 {h : Hrd} (e : hardB h = true) : HardA h ∧ confB h.baseConf = true ∧ (h.snap.length ≤ 16384 ∧ (0 < h.base ∨ h.snap.length = 0)) ∧ rowB h.log h.baseTerm h.term = true := by
 unfold hardB at e
 simp only [Bool.and_eq_true, decide_eq_true_eq] at e
 obtain ⟨e1, e2, e3, e4⟩ := e
 refine ⟨?_, e2, e3, e4⟩
 apply Classical.byContradiction
 intro hn
 rw [zc1 hn] at e1; cases e1
theorem zbe {h : Hrd} (hb : 0 ≤ h.base) (hs : h.base + h.log.length < 9223372036854775808) : lastI h = h.base + h.log.length := by
 unfold lastI
 split
 ·omega
 ·exact zai (by omega) (by omega)
theorem alike_0 (g : List Ent) (n : Nat) (l : List Ent) : alike g n l 0 := fun k hk => absurd hk (Nat.not_lt_zero _)
theorem ztf {g : List Ent} {n : Nat} {l : List Ent} {j : Nat} (h : alike g n l j) (h1 : n + j < g.length) (h2 : j < l.length) (e : (g[n + j]'h1).term = (l[j]'h2).term) : alike g n l (j + 1) := by
 intro k hk
 by_cases ek : k = j
 ·subst ek; exact ⟨h1, h2, e⟩
 ·exact h k (by omega)
theorem zyl {g : List Ent} {n : Nat} {l : List Ent} {j : Nat} (h : alike g n l j) (hn : n ≤ g.length) : n + j ≤ g.length := by
 by_cases ek : j = 0
 ·omega
 ·obtain ⟨h1, _⟩ := h (j - 1) (by omega); omega
theorem zov : ∀ (g l : List Ent) (k : Nat) (h : k < l.length), ∃ a, (putM g l)[k]? = some a ∧ a.term = (l[k]'h).term
 | g, [], k, h => by simp at h
 | [], x :: l, k, h => ⟨(x :: l)[k], by simp [putM, h], rfl⟩
 | y :: g, x :: l, k, h => by
  by_cases e : y.term = x.term
  ·rw [putM, if_pos e]
   cases k with
   | zero => exact ⟨y, rfl, e⟩
   | succ k =>
    obtain ⟨a, h1, h2⟩ := zov g l k (by simpa using h)
    exact ⟨a, by simpa using h1, by simpa using h2⟩
  ·rw [putM, if_neg e]
   exact ⟨(x :: l)[k], by simp [h], rfl⟩
theorem zm9 : ∀ (g l : List Ent) (b t : Int), rowB g b t = true → rowB l b t = true → rowB (putM g l) b t = true
 | g, [], b, t, h, _ => by
  have : putM g [] = g := by cases g <;> rfl
  rw [this]; exact h
 | [], x :: l, b, t, _, h => by rw [putM]; exact h
 | y :: g, x :: l, b, t, h1, h2 => by
  by_cases e : y.term = x.term
  ·rw [putM, if_pos e]
   simp only [rowB, Bool.and_eq_true] at h1 h2 ⊢
   exact ⟨h1.1, zm9 g l y.term t h1.2 (by rw [e]; exact h2.2)⟩
  ·rw [putM, if_neg e]; exact h2
theorem zp0 (x : Ent) (g : List Ent) (b : Int) (n : Nat) : behind (x :: g) b (n + 1) = behind g x.term n := by
 cases n with
 | zero => simp [behind]
 | succ n =>
  cases g with
  | nil => simp [behind]
  | cons y g =>
   simp only [behind, List.take_succ_cons, List.getLast?_cons_cons]
   cases he : (y :: List.take n g).getLast? with
   | none => simp at he
   | some z => rfl
theorem zd4 : ∀ (g k : List Ent) (b t : Int), rowB (g ++ k) b t = (rowB g b t && rowB k (behind g b g.length) t)
 | [], k, b, t => by simp [rowB, behind]
 | x :: g, k, b, t => by
  simp only [List.cons_append, rowB, zd4 g k, List.length_cons, zp0, Bool.and_assoc]
theorem zgk (g : List Ent) (b : Int) (n : Nat) (hn : n ≤ g.length) : behind (g.take n) b (g.take n).length = behind g b n := by
 unfold behind
 rw [List.take_length]
theorem zuc {g l : List Ent} {b t : Int} {n : Nat} (hn : n ≤ g.length) (h1 : rowB g b t = true) (h2 : rowB l (behind g b n) t = true) : rowB (putG g n l) b t = true := by
 unfold putG
 have h := h1
 rw [← List.take_append_drop n g, zd4, Bool.and_eq_true, zgk g b n hn] at h
 rw [zd4, Bool.and_eq_true, zgk g b n hn]
 exact ⟨h.1, zm9 _ _ _ _ h.2 h2⟩
theorem zfc {h : Hrd} {j : Int} {m : Nat} (e : j = h.base + 1 + m) : entAt h j = h.log[m]? := by
 by_cases hm : m < h.log.length
 ·rw [zfw (by omega) (by omega), List.getElem?_eq_getElem hm]
  congr 2
  omega
 ·rw [zdx (by omega), List.getElem?_eq_none (by omega)]
theorem zdi {h : Hrd} {j : Int} {n : Nat} (e : j = h.base + n) (hn : n ≤ h.log.length) : zbk h j = behind h.log h.baseTerm n := by
 unfold zbk
 cases n with
 | zero => rw [if_pos (by omega), zee]
 | succ n =>
  rw [if_neg (by omega), zfc (m := n) (by omega), List.getElem?_eq_getElem (by omega), zbj (by omega)]
theorem zgy (g l : List Ent) {n : Nat} (hn : n ≤ g.length) : (putG g n l).take n = g.take n := by
 unfold putG
 rw [List.take_append_of_le_length (by simp; omega), List.take_take, Nat.min_self]
theorem zg5 (g l : List Ent) {n : Nat} (hn : n ≤ g.length) : (putG g n l).drop n = putM (g.drop n) l := by
 unfold putG
 rw [List.drop_append_of_le_length (by simp; omega), List.drop_eq_nil_of_le (by simp; omega), List.nil_append]
theorem zg4 : ∀ g l : List Ent, (putM g l).length ≤ g.length + l.length ∧ l.length ≤ (putM g l).length
 | g, [] => by cases g <;> simp [putM]
 | [], x :: l => by simp [putM]
 | y :: g, x :: l => by
  have := zg4 g l
  rw [putM]
  split <;> simp only [List.length_cons] <;> omega
theorem zv4 (g l : List Ent) {n : Nat} (hn : n ≤ g.length) : (putG g n l).length ≤ g.length + l.length := by
 have := (zg4 (g.drop n) l).1
 unfold putG
 rw [List.length_append, List.length_take]
 rw [List.length_drop] at this
 omega
structure PutOk (h : Hrd) (i : Int) (l : List Ent) (n : Nat) : Prop where
 hard : hardB h = true
 at' : i = h.base + n
 le : n ≤ h.log.length
 row : rowB l (behind h.log h.baseTerm n) h.term = true
theorem putOk {h : Hrd} {i : Int} {l : List Ent} (e : putHE h i l = 0) (hl : h.log.length ≤ 4294967) : ∃ n, PutOk h i l n := by
 obtain ⟨h1, h2, h3⟩ := zwa e
 have hA := (za2 h1).1
 have := hA.b
 rw [zbe this.1 (by omega)] at h2
 refine ⟨(i - h.base).toNat, h1, by omega, by omega, ?_⟩
 rw [← zdi (h := h) (j := i) (by omega) (by omega)]
 exact h3
theorem PutOk.e {h : Hrd} {i : Int} {l : List Ent} {n : Nat} (k : PutOk h i l n) (hl : h.log.length ≤ 4294967) : putHE h i l = 0 := by
 have hA := (za2 k.hard).1
 have := hA.b
 have := k.at'
 have := k.le
 unfold putHE
 rw [if_pos k.hard, if_pos]
 refine ⟨?_, ?_⟩
 ·rw [zbe (by omega) (by omega)]; omega
 ·rw [zdi k.at' k.le]; exact k.row
theorem PutOk.log {h : Hrd} {i : Int} {l : List Ent} {n : Nat} (k : PutOk h i l n) : putH h i l = { h with log := putG h.log n l } := by
 have := k.at'
 unfold putH
 rw [show (i - h.base).toNat = n by omega]
theorem zn8 {h : Hrd} (e : hardB h = true) {g : List Ent} (hg : rowB g h.baseTerm h.term = true) : hardB { h with log := g } = true := by
 obtain ⟨hA, h2, h3, _⟩ := za2 e
 unfold hardB
 rw [zbm (show HardA { h with log := g } from ⟨hA.t, hA.v, hA.b, hA.bt, hA.z⟩)]
 simp only [h2, hg, h3, Bool.and_true, Bool.true_and, decide_eq_true_eq]
 simp
theorem PutOk.right {h : Hrd} {i : Int} {l : List Ent} {n : Nat} (k : PutOk h i l n) : hardB (putH h i l) = true := by
 rw [k.log]
 exact zn8 k.hard (zuc k.le (za2 k.hard).2.2.2 k.row)
theorem zyr (g : List Ent) : putM g [] = g := by cases g <;> rfl
theorem zg0 (l : List Ent) : putM [] l = l := by cases l <;> rfl
theorem zld : ∀ (g l : List Ent) (k : Nat), k ≤ l.length → (putM g (l.take k)).take k ++ putM ((putM g (l.take k)).drop k) (l.drop k) = putM g l
 | g, l, 0, _ => by simp [zyr]
 | g, [], k + 1, h => by simp at h
 | [], x :: l, k + 1, h => by
  have h' : k ≤ l.length := by simpa using h
  have h1 : ((x :: l).take (k + 1)).length = k + 1 := by simp; omega
  rw [zg0, zg0, List.take_take, Nat.min_self, List.drop_eq_nil_of_le (by omega), zg0, List.take_append_drop]
 | y :: g, x :: l, k + 1, h => by
  have h' : k ≤ l.length := by simpa using h
  by_cases e : y.term = x.term
  ·rw [List.take_succ_cons, putM, if_pos e, List.take_succ_cons, List.drop_succ_cons, List.drop_succ_cons, List.cons_append, zld g l k h', putM, if_pos e]
  ·have h1 : (x :: l.take k).length = k + 1 := by simp; omega
   rw [List.take_succ_cons, putM, if_neg e, List.take_of_length_le (by omega), List.drop_eq_nil_of_le (by omega), zg0, List.drop_succ_cons, List.cons_append, List.take_append_drop, putM, if_neg e]
theorem zsb {g l : List Ent} {n k : Nat} (hn : n ≤ g.length) (hk : k ≤ l.length) : putG (putG g n (l.take k)) (n + k) (l.drop k) = putG g n l := by
 have h1 : (g.take n).length = n := by simp; omega
 show (putG g n (l.take k)).take (n + k) ++ putM ((putG g n (l.take k)).drop (n + k)) (l.drop k) = g.take n ++ putM (g.drop n) l
 rw [← zld (g.drop n) l k hk, List.take_add, zgy g _ hn, zg5 g _ hn, List.append_assoc, ← List.drop_drop, zg5 g _ hn]
theorem zs7 {g l : List Ent} {b : Int} {n k : Nat} (hn : n ≤ g.length) (hk : k ≤ l.length) : behind (putG g n (l.take k)) b (n + k) = behind (l.take k) (behind g b n) (l.take k).length := by
 have hl : (l.take k).length = k := by simp; omega
 rw [hl]
 cases k with
 | zero =>
  rw [Nat.add_zero, zee]
  unfold behind
  rw [zgy g _ hn]
 | succ k =>
  have h3 := (zg4 (g.drop n) (l.take (k + 1))).2
  have h4 : n + k < (putG g n (l.take (k + 1))).length := by
   unfold putG
   rw [List.length_append, List.length_take]; omega
  rw [show n + (k + 1) = n + k + 1 from rfl, zbj h4, zbj (by omega)]
  obtain ⟨a, h5, h6⟩ := zov (g.drop n) (l.take (k + 1)) k (by omega)
  rw [← h6]
  have h7 : (putG g n (l.take (k + 1)))[n + k]? = some a := by
   rw [← List.getElem?_drop, zg5 g _ hn, h5]
  rw [List.getElem?_eq_getElem h4, Option.some.injEq] at h7
  rw [h7]
theorem zku {l : List Ent} {b t : Int} (h : rowB l b t = true) (k : Nat) : rowB (l.take k) b t = true ∧ rowB (l.drop k) (behind (l.take k) b (l.take k).length) t = true := by
 rw [← List.take_append_drop k l, zd4, Bool.and_eq_true] at h
 exact h
theorem PutOk.part {h : Hrd} {i : Int} {l : List Ent} {n k : Nat} (o : PutOk h i l n) (hk : k ≤ l.length) : PutOk h i (l.take k) n ∧ PutOk (putH h i (l.take k)) (i + k) (l.drop k) (n + k) ∧ putH (putH h i (l.take k)) (i + k) (l.drop k) = putH h i l := by
 obtain ⟨r1, r2⟩ := zku o.row k
 have o1 : PutOk h i (l.take k) n := ⟨o.hard, o.at', o.le, r1⟩
 have hr := o1.right
 have hlog := o1.log
 have ha := o.at'
 have h3 := (zg4 (h.log.drop n) (l.take k)).2
 have h4 : (l.take k).length = k := by simp; omega
 have h5 : n + k ≤ (putG h.log n (l.take k)).length := by
  have := o.le
  unfold putG
  rw [List.length_append, List.length_take]; omega
 have o2 : PutOk (putH h i (l.take k)) (i + k) (l.drop k) (n + k) := ⟨hr, by show i + k = h.base + ((n + k : Nat) : Int); omega, by rw [hlog]; exact h5, by
  rw [hlog]
  show rowB (l.drop k) (behind (putG h.log n (l.take k)) h.baseTerm (n + k)) h.term = true
  rw [zs7 o.le hk]; exact r2⟩
 refine ⟨o1, o2, ?_⟩
 rw [o2.log, o.log, hlog]
 simp only [zsb o.le hk]
def fromL (h : Hrd) (i m : Int) : List Ent := if h.base < i ∧ 1 ≤ m then (h.log.drop (i - h.base - 1).toNat).take m.toNat else []
theorem znt {h : Hrd} {i : Int} {x : Ent} (he : entAt h i = some x) : h.base < i ∧ i - h.base ≤ h.log.length := by
 unfold entAt at he
 split at he
 ·assumption
 ·cases he
theorem z0f {h : Hrd} {i m : Int} (hi : h.base < i) (hm : 0 ≤ m) : fromL h i m = (h.log.drop (i - h.base - 1).toNat).take m.toNat := by
 unfold fromL
 by_cases h1 : 1 ≤ m
 ·rw [if_pos ⟨hi, h1⟩]
 ·rw [if_neg (by omega), show m.toNat = 0 by omega]; rfl
end Go.Proofs
