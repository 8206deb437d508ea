/-
  Regions, control, loops: the evaluator of code, and its soundness. Generic over the program.
-/
import Derived.Test.YtnphfgphajejaaaPvK
namespace Go.Pv

noncomputable def stepK (P : Program) (ops : List Oper) (c : CSt) (o : Oper) (k : CSt → Eff → Prop) : Prop :=
  match o.guard with
  | none => opE P c o (k c)
  | some (j, want) => match ops[j]? with
    | some ⟨some t, _, _, _, _, _⟩ => match c with
      | ⟨tm0, bx, ob⟩ => lkK .bad tm0 t fun p => match p with
        | .sc (.bool b) => splitK b fun b => stK tm0 t (.sc (.bool b)) fun tm => match b, want with
          | true, true => opE P ⟨tm, bx, ob⟩ o (k ⟨tm, bx, ob⟩)
          | false, false => opE P ⟨tm, bx, ob⟩ o (k ⟨tm, bx, ob⟩)
          | _, _ => k ⟨tm, bx, ob⟩ skipE
        | .sc (.tuple _) => k ⟨tm0, bx, ob⟩ skipE
        | _ => False
    | _ => False

theorem set_same {ts : List PV} {t : Nat} {p : PV} (h : ts.getD t .bad = p) (hp : p ≠ .bad) : ts.set t p = ts := by
  have hlt : t < ts.length := by
    apply Nat.lt_of_not_le
    intro hle
    rw [List.getD_eq_getElem?_getD, List.getElem?_eq_none hle] at h
    exact hp h.symm
  rw [List.getD_eq_getElem?_getD, List.getElem?_eq_getElem hlt] at h
  simp at h
  rw [← h]
  exact List.set_getElem_self hlt

theorem stepK_sound {P : Program} {ops : Array Oper} {c : CSt} {o : Oper} {i : Nat} {k : CSt → Eff → Prop} (ho : ops[i]? = some o) (h : stepK P ops.toList c o k) : ∃ E, OpSemG P ops i o E c.tm ∧ Sat c.st E ∧ k c E := by
  unfold stepK at h
  split at h
  · rename_i hg
    obtain ⟨E, h1, h2, h3⟩ := opE_sound h
    exact ⟨E, opSemG_plain ho hg h1, h2, h3⟩
  · rename_i j want hg
    split at h
    · rename_i t _ _ _ _ _ hj
      have hdst : (ops[j]?).bind (·.dst) = some t := by
        rw [Array.getElem?_toList] at hj
        rw [hj]; rfl
      obtain ⟨tm0, bx, ob⟩ := c
      simp only [lkK_eq] at h
      split at h
      · rename_i b hb
        rw [splitK_eq, stK_eq] at h
        have hs : tm0.set t (.sc (.bool b)) = tm0 := set_same hb (by simp)
        rw [hs] at h
        split at h
        · obtain ⟨E, h1, h2, h3⟩ := opE_sound h
          exact ⟨E, opSemG_taken ho hg hdst hb h1, h2, h3⟩
        · obtain ⟨E, h1, h2, h3⟩ := opE_sound h
          exact ⟨E, opSemG_taken ho hg hdst hb h1, h2, h3⟩
        · rename_i n1 n2
          have hbw : b = !want := by
            cases b <;> cases want <;> simp_all
          subst hbw
          exact ⟨skipE, opSemG_left ho hg hdst hb, by simp [Sat, skipE], h⟩
      · rename_i hb
        exact ⟨skipE, opSemG_left' ho hg hdst hb, by simp [Sat, skipE], h⟩
      · exact h.elim
    · exact h.elim

/-- Operations in the order of the text, with what each did. -/
def RunL (P : Program) (ops : Array Oper) : List Oper → Nat → St → List Eff → St → Prop
  | [], _, s, Es, s' => Es = [] ∧ s = s'
  | o :: os, i, s, Es, s' => ∃ E r, Es = E :: r ∧ OpSemG P ops i o E s.tmps ∧ Sat s E ∧ RunL P ops os (i + 1) (s.apply o.dst E) r s'

/- By its recursor: so the elaborator's form and the kernel's are the same text (the kernel need not evaluate both). -/
noncomputable def prunK (P : Program) (ops os : List Oper) : CSt → (CSt → Prop) → Prop :=
  @List.rec Oper (fun _ => CSt → (CSt → Prop) → Prop) (fun c k => k c) (fun o _ R c k => stepK P ops c o fun c E => applyK c o.dst E fun c => R c k) os

theorem prunK_cons (P : Program) (ops : List Oper) (o : Oper) (os : List Oper) (c : CSt) (k : CSt → Prop) : prunK P ops (o :: os) c k = stepK P ops c o fun c E => applyK c o.dst E fun c => prunK P ops os c k := rfl

theorem prunK_sound {P : Program} {ops : Array Oper} : ∀ {os : List Oper} {i : Nat} {c : CSt} {k : CSt → Prop}, (∀ j : Nat, (ops.toList.drop i)[j]? = os[j]?) → prunK P ops.toList os c k → ∃ Es c', RunL P ops os i c.st Es c'.st ∧ k c'
  | [], i, c, k, _, h => ⟨[], c, ⟨rfl, rfl⟩, h⟩
  | o :: os, i, c, k, hd, h => by
    rw [prunK_cons] at h
    have ho : ops[i]? = some o := by have := hd 0; simpa using this
    obtain ⟨E, h1, h2, h3⟩ := stepK_sound ho h
    rw [applyK_eq] at h3
    obtain ⟨Es, c', h4, h5⟩ := prunK_sound (i := i + 1) (fun j => by have := hd (j + 1); simp only [List.getElem?_drop, List.getElem?_cons_succ] at this ⊢; rw [← this]; congr 1; omega) h3
    rw [apply_st] at h4
    exact ⟨E :: Es, c', ⟨E, Es, rfl, h1, h2, h4⟩, h5⟩

theorem RunL.seq {P : Program} {ops : Array Oper} {Q : Exit → Act → World → Prop} {w0 : World} {X : Nat → Prop} {S0 : Base} : ∀ {os : List Oper} {i : Nat} {s : St} {Es : List Eff} {s' : St}, os = ops.toList.drop i → RunL P ops os i s Es s' → (∀ M a w, Rel w0 X S0 M s' a w → Q .normal a w) →
    ∀ M a w, Rel w0 X S0 M s a w → wpOps P ops Q (List.range' i os.length) a w
  | [], i, s, Es, s', _, h, hq, M, a, w, hr => by
    obtain ⟨_, rfl⟩ := h
    simp only [List.length_nil, List.range'_zero, wpOps]
    exact hq M a w hr
  | o :: os, i, s, Es, s', hd, h, hq, M, a, w, hr => by
    obtain ⟨E, r, rfl, h1, h2, h3⟩ := h
    simp only [List.length_cons]
    rw [List.range'_succ, wpOps_cons]
    refine h1 w0 X S0 M s a w Q _ hr (fun _ _ => rfl) h2 ?_
    intro M' a' w' hr'
    refine RunL.seq ?_ h3 hq M' a' w' hr'
    have := congrArg List.tail hd
    simpa [List.tail_drop] using this

/-! ### Drawn regions -/

theorem RunL.sOf {P : Program} {ops : Array Oper} (s0 : St) (Es : List Eff) (s' : St) : ∀ (m i : Nat) (s : St), i + m = ops.size → s = Pv.sOf ops (fun j => Es.getD j skipE) s0 (fun _ => true) i → RunL P ops (ops.toList.drop i) i s (Es.drop i) s' →
    (∀ j o, i ≤ j → ops[j]? = some o → OpSemG P ops j o (Es.getD j skipE) (Pv.sOf ops (fun j => Es.getD j skipE) s0 (fun _ => true) j).tmps ∧ Sat (Pv.sOf ops (fun j => Es.getD j skipE) s0 (fun _ => true) j) (Es.getD j skipE)) ∧
    s' = Pv.sOf ops (fun j => Es.getD j skipE) s0 (fun _ => true) ops.size := by
  intro m
  induction m with
  | zero =>
    intro i s hi hs h
    have hnil : ops.toList.drop i = [] := List.drop_eq_nil_of_le (by simp; omega)
    rw [hnil] at h
    obtain ⟨_, rfl⟩ := h
    refine ⟨fun j o hj ho => ?_, ?_⟩
    · have := (Array.getElem?_eq_some_iff.1 ho).1; omega
    · rw [hs]; congr 1
  | succ m ih =>
    intro i s hi hs h
    have hlt : i < ops.size := by omega
    have hcons : ops.toList.drop i = ops[i] :: ops.toList.drop (i + 1) := by
      rw [List.drop_eq_getElem_cons (by simpa using hlt)]; simp
    rw [hcons] at h
    obtain ⟨E, r, hE, h1, h2, h3⟩ := h
    have hEi : Es.getD i skipE = E := by
      have := congrArg (fun l => l[0]?) hE
      simp at this
      rw [List.getD_eq_getElem?_getD, this]; rfl
    have hr : r = Es.drop (i + 1) := by
      have := congrArg List.tail hE
      simpa [List.tail_drop] using this.symm
    subst hr
    have hd : ops[i].dst = dstOf ops i := by simp [dstOf, hlt]
    have hnext : s.apply ops[i].dst E = Pv.sOf ops (fun j => Es.getD j skipE) s0 (fun _ => true) (i + 1) := by
      show _ = (if true then (Pv.sOf ops (fun j => Es.getD j skipE) s0 (fun _ => true) i).apply (dstOf ops i) (Es.getD i skipE) else _)
      rw [if_pos rfl, hEi, ← hs, hd]
    obtain ⟨g1, g2⟩ := ih (i + 1) _ (by omega) hnext h3
    refine ⟨fun j o hj ho => ?_, g2⟩
    by_cases e : j = i
    · subst e
      have : o = ops[j] := by rw [Array.getElem?_eq_getElem hlt] at ho; simpa using ho.symm
      subst this
      rw [← hs, hEi]
      exact ⟨h1, h2⟩
    · exact g1 j o (by omega) ho

/-- Who stands ahead of each operation, by bits. -/
def maskOf (ms : List Nat) (o : Oper) : Nat := o.after.toList.foldl (fun s e => if Region.binds .any e then s ||| 2 ^ e.on ||| ms.getD e.on 0 else s) 0
def masks : List Oper → List Nat → List Nat
  | [], ms => ms
  | o :: os, ms => masks os (ms ++ [maskOf ms o])
def preB (ops : List Oper) (i j : Nat) : Bool := ((masks ops []).getD j 0).testBit i

theorem mask_fold (ms : List Nat) (i : Nat) : ∀ (es : List Edge) (s : Nat), (es.foldl (fun s e => if Region.binds .any e then s ||| 2 ^ e.on ||| ms.getD e.on 0 else s) s).testBit i = true →
    s.testBit i = true ∨ ∃ e ∈ es, Region.binds .any e = true ∧ (i = e.on ∨ (ms.getD e.on 0).testBit i = true)
  | [], s, h => .inl h
  | e :: es, s, h => by
    simp only [List.foldl_cons] at h
    rcases mask_fold ms i es _ h with h1 | ⟨e', he', h2⟩
    · by_cases hb : Region.binds .any e = true
      · rw [if_pos hb] at h1
        simp only [Nat.testBit_or, Bool.or_eq_true] at h1
        rcases h1 with (h1 | h1) | h1
        · exact .inl h1
        · rw [Nat.testBit_two_pow] at h1
          exact .inr ⟨e, by simp, hb, .inl (by simpa using (of_decide_eq_true h1).symm)⟩
        · exact .inr ⟨e, by simp, hb, .inr h1⟩
      · rw [if_neg hb] at h1; exact .inl h1
    · exact .inr ⟨e', by simp [he'], h2⟩

theorem masks_sound (ops : Array Oper) : ∀ (os : List Oper) (ms : List Nat), os = ops.toList.drop ms.length → (∀ i j, (ms.getD j 0).testBit i = true → Pre ops i j) → ∀ i j, ((masks os ms).getD j 0).testBit i = true → Pre ops i j
  | [], ms, _, h, i, j, hm => h i j hm
  | o :: os, ms, hd, h, i, j, hm => by
    simp only [masks] at hm
    have ho : ops[ms.length]? = some o := by
      have := congrArg (fun l => l[0]?) hd
      simp at this
      exact this.symm
    refine masks_sound ops os (ms ++ [maskOf ms o]) ?_ ?_ i j hm
    · have := congrArg List.tail hd
      simpa [List.tail_drop] using this
    · intro i j hb
      rw [List.getD_eq_getElem?_getD, List.getElem?_append] at hb
      by_cases hj : j < ms.length
      · rw [if_pos hj] at hb
        exact h i j (by rw [List.getD_eq_getElem?_getD]; exact hb)
      · rw [if_neg hj] at hb
        by_cases hj2 : j = ms.length
        · subst hj2
          simp at hb
          rcases mask_fold ms i o.after.toList 0 (by simpa [maskOf] using hb) with h1 | ⟨e, he, hbd, h2⟩
          · simp at h1
          · have hedge : edgeTo ops e.on ms.length := ⟨o, ho, e, he, hbd, rfl⟩
            rcases h2 with rfl | h2
            · exact .one hedge
            · exact .more (h i e.on h2) hedge
        · have : ([maskOf ms o] : List Nat)[j - ms.length]? = none := List.getElem?_eq_none (by simp; omega)
          rw [this] at hb
          simp at hb

theorem preB_sound {ops : Array Oper} {i j : Nat} (h : preB ops.toList i j = true) : Pre ops i j :=
  masks_sound ops ops.toList [] (by simp) (fun i j h => by simp at h) i j h

def dstL (ops : List Oper) (i : Nat) : Option Nat := (ops[i]?).bind (·.dst)

def tconfB (ops : Array Oper) (i j : Nat) : Bool :=
  match ops[i]?, ops[j]? with
  | some a, some b => (match a.dst with
      | some t => b.dst == some t || (b.looksAt ops).contains t
      | none => false) || (match b.dst with
      | some t => (a.looksAt ops).contains t
      | none => false)
  | _, _ => false

/-- A drawn region's temporaries: who reads what another one writes, or writes it too, stands ahead of it or behind it. -/
def tmpOk (ops : Array Oper) : Bool :=
  (List.range ops.size).all fun j => (match ops[j]? with | some o => o.after.toList.all (fun e => !Region.binds .any e || Nat.blt e.on j) | none => true) && (List.range j).all fun i => !tconfB ops i j || preB ops.toList i j

theorem tmpOk_back {ops : Array Oper} (h : tmpOk ops = true) : ∀ i j, edgeTo ops i j → i < j := by
  rintro i j ⟨o, ho, e, he, hb, rfl⟩
  unfold tmpOk at h
  rw [List.all_eq_true] at h
  have h1 := h j (List.mem_range.2 (Array.getElem?_eq_some_iff.1 ho).1)
  simp only [ho, Bool.and_eq_true] at h1
  have h2 := (List.all_eq_true.1 h1.1) e he
  simp only [hb, Bool.not_true, Bool.false_or] at h2
  simp [Nat.blt] at h2
  omega

theorem tmpOk_conf {ops : Array Oper} (h : tmpOk ops = true) {i j : Nat} (hij : i < j) (hj : j < ops.size) (hc : TConf ops i j) : Pre ops i j := by
  unfold tmpOk at h
  rw [List.all_eq_true] at h
  have h1 := h j (List.mem_range.2 hj)
  rw [Bool.and_eq_true] at h1
  have h2 := (List.all_eq_true.1 h1.2) i (List.mem_range.2 hij)
  have ha : ops[i]? = some ops[i] := by simp
  have hb : ops[j]? = some ops[j] := by simp
  have ht : tconfB ops i j = true := by
    unfold tconfB
    simp only [ha, hb]
    obtain ⟨t, hc⟩ := hc
    simp only [dstOf, ha, hb, Option.bind_some, Option.some.injEq, exists_eq_left'] at hc
    rcases hc with ⟨h1, h2⟩ | ⟨h1, h2⟩
    · simp only [h1, Bool.or_eq_true, beq_iff_eq]
      left
      rcases h2 with h2 | h2
      · exact .inl h2
      · exact .inr (by simpa using h2)
    · simp only [h1, Bool.or_eq_true]
      right
      simpa using h2
  simp only [ht, Bool.not_true, Bool.false_or] at h2
  exact preB_sound h2

/-- Keys that an operation touches. -/
structure Fp where
  wb : List Nat
  fb : List Nat
  wo : List Nat
  fo : List Nat

def fpOf (E : Eff) : Fp := ⟨Wb E, Fb E, Wo E, Fo E⟩

def meets (a b : List Nat) : Bool := a.any fun k => b.any fun j => Nat.beq k j
def fpPair (a b : Fp) : Bool := meets a.wb b.fb || meets b.wb a.fb || meets a.wo b.fo || meets b.wo a.fo

theorem meets_of {a b : List Nat} {k : Nat} (h1 : k ∈ a) (h2 : k ∈ b) : meets a b = true := by
  unfold meets
  rw [List.any_eq_true]
  exact ⟨k, h1, by rw [List.any_eq_true]; exact ⟨k, h2, by simp⟩⟩

theorem fpPair_of {Es : Nat → Eff} {i j : Nat} (h : BConf Es i j ∨ OConf Es i j) : fpPair (fpOf (Es i)) (fpOf (Es j)) = true := by
  unfold fpPair fpOf
  simp only [Bool.or_eq_true]
  rcases h with ⟨k, ⟨h1, h2⟩ | ⟨h1, h2⟩⟩ | ⟨k, ⟨h1, h2⟩ | ⟨h1, h2⟩⟩
  · exact .inl (.inl (.inl (meets_of h1 h2)))
  · exact .inl (.inl (.inr (meets_of h1 h2)))
  · exact .inl (.inr (meets_of h1 h2))
  · exact .inr (meets_of h1 h2)

/-- The newest operation against those before it: entries are kept newest first, of index n - 1 down. -/
def fpNew (ops : List Oper) (j : Nat) (b : Fp) : List Fp → Nat → Bool
  | [], _ => true
  | a :: r, i => (bif fpPair a b then preB ops i j else true) && fpNew ops j b r (i - 1)

def keysK (E : Eff) (k : Fp → Prop) : Prop :=
  mapK (fun (p : Nat × List PV) k => k p.1) E.rb fun rb => mapK (fun (p : Nat × List PV) k => k p.1) E.wb fun wb =>
  mapK (fun (p : Nat × Bool × Nat × List (List PV)) k => k p.1) E.ro fun ro => mapK (fun (p : Nat × Option (Bool × Nat × List (List PV))) k => k p.1) E.wo fun wo =>
  appK rb E.fb fun x => appK x wb fun fb => appK ro E.fo fun y => appK y wo fun fo => k ⟨wb, fb, wo, fo⟩

theorem keysK_eq (E : Eff) (k : Fp → Prop) : keysK E k = k (fpOf E) := by
  unfold keysK
  simp only [mapK_eq _ (fun p : Nat × List PV => p.1) (fun _ _ => rfl), mapK_eq _ (fun p : Nat × Bool × Nat × List (List PV) => p.1) (fun _ _ => rfl), mapK_eq _ (fun p : Nat × Option (Bool × Nat × List (List PV)) => p.1) (fun _ _ => rfl), appK_eq]
  rfl

noncomputable def prunDK (P : Program) (ops os : List Oper) : Nat → List Fp → CSt → (CSt → Prop) → Prop :=
  @List.rec Oper (fun _ => Nat → List Fp → CSt → (CSt → Prop) → Prop) (fun _ _ c k => k c) (fun o _ R j acc c k => stepK P ops c o fun c E => keysK E fun fp => okK (fpNew ops j fp acc (j - 1)) (applyK c o.dst E fun c => R (j + 1) (fp :: acc) c k)) os

theorem prunDK_cons (P : Program) (ops : List Oper) (o : Oper) (os : List Oper) (j : Nat) (acc : List Fp) (c : CSt) (k : CSt → Prop) : prunDK P ops (o :: os) j acc c k = stepK P ops c o fun c E => keysK E fun fp => okK (fpNew ops j fp acc (j - 1)) (applyK c o.dst E fun c => prunDK P ops os (j + 1) (fp :: acc) c k) := rfl

theorem fpNew_sound {ops : List Oper} {j : Nat} {b : Fp} : ∀ {acc : List Fp} {n : Nat}, fpNew ops j b acc n = true → ∀ m a, acc[m]? = some a → m ≤ n → fpPair a b = true → preB ops (n - m) j = true
  | [], n, _, m, a, h, _, _ => by simp at h
  | x :: acc, n, h, 0, a, ha, _, hp => by
    simp at ha; subst ha
    simp only [fpNew, hp, cond_true, Bool.and_eq_true] at h
    simpa using h.1
  | x :: acc, n, h, m + 1, a, ha, hle, hp => by
    simp only [fpNew, Bool.and_eq_true] at h
    simp at ha
    have := fpNew_sound h.2 m a ha (by omega) hp
    rwa [show n - 1 - m = n - (m + 1) by omega] at this

theorem prunDK_sound {P : Program} {ops : Array Oper} : ∀ {os : List Oper} {i : Nat} {acc : List Fp} {c : CSt} {k : CSt → Prop}, (∀ j : Nat, (ops.toList.drop i)[j]? = os[j]?) → acc.length = i → prunDK P ops.toList os i acc c k →
    ∃ Es c', RunL P ops os i c.st Es c'.st ∧ k c' ∧ (∀ m E, Es[m]? = some E → (∀ m' a, acc[m']? = some a → fpPair a (fpOf E) = true → preB ops.toList (i - 1 - m') (i + m) = true) ∧ ∀ m' E', m' < m → Es[m']? = some E' → fpPair (fpOf E') (fpOf E) = true → preB ops.toList (i + m') (i + m) = true)
  | [], i, acc, c, k, _, _, h => ⟨[], c, ⟨rfl, rfl⟩, h, fun m E hm => by simp at hm⟩
  | o :: os, i, acc, c, k, hd, hl, h => by
    rw [prunDK_cons] at h
    have ho : ops[i]? = some o := by have := hd 0; simpa using this
    obtain ⟨E, h1, h2, h3⟩ := stepK_sound ho h
    rw [keysK_eq] at h3
    obtain ⟨hf, h3⟩ := okK_iff h3
    rw [applyK_eq] at h3
    obtain ⟨Es, c', h4, h5, h6⟩ := prunDK_sound (i := i + 1) (fun j => by have := hd (j + 1); simp only [List.getElem?_drop, List.getElem?_cons_succ] at this ⊢; rw [← this]; congr 1; omega) (by simp [hl]) h3
    rw [apply_st] at h4
    refine ⟨E :: Es, c', ⟨E, Es, rfl, h1, h2, h4⟩, h5, ?_⟩
    intro m E' hm
    cases m with
    | zero =>
      simp at hm; subst hm
      refine ⟨fun m' a ha hp => ?_, fun m' _ hlt => by omega⟩
      have hlt := (List.getElem?_eq_some_iff.1 ha).1
      have := fpNew_sound hf m' a ha (by omega) hp
      simpa using this
    | succ m =>
      simp at hm
      obtain ⟨g1, g2⟩ := h6 m E' hm
      refine ⟨fun m' a ha hp => ?_, fun m' E'' hlt he hp => ?_⟩
      · have := g1 (m' + 1) a (by simpa using ha) hp
        have hlt := (List.getElem?_eq_some_iff.1 ha).1
        rwa [show i + 1 - 1 - (m' + 1) = i - 1 - m' by omega, show i + 1 + m = i + (m + 1) by omega] at this
      · cases m' with
        | zero =>
          simp at he; subst he
          have := g1 0 (fpOf E) (by simp) hp
          rwa [show i + 1 - 1 - 0 = i + 0 by omega, show i + 1 + m = i + (m + 1) by omega] at this
        | succ m' =>
          simp at he
          have := g2 m' E'' (by omega) he hp
          rwa [show i + 1 + m' = i + (m' + 1) by omega, show i + 1 + m = i + (m + 1) by omega] at this

theorem RunL.len {P : Program} {ops : Array Oper} : ∀ {os : List Oper} {i : Nat} {s : St} {Es : List Eff} {s' : St}, RunL P ops os i s Es s' → Es.length = os.length
  | [], i, s, Es, s', h => by obtain ⟨rfl, _⟩ := h; rfl
  | o :: os, i, s, Es, s', h => by
    obtain ⟨E, r, rfl, _, _, h3⟩ := h
    simp [RunL.len h3]

end Go.Pv
