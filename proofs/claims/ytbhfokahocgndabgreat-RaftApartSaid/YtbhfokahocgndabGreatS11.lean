import Derived.Test.YtbhfokahocgndabGreatC1
import Derived.Test.YtbhfokahocgndabGreatS1
import Derived.Test.YtbhfokahocgndabGreatQ7
import Derived.Test.YtbhfokahocgndabGreatI1
/- Contracts of functions: the page's leader's tick. (genS11.py prints this) -/
set_option linter.unusedSimpArgs false
set_option linter.unusedVariables false
namespace Go.Proofs
open Go.Pv
set_option maxRecDepth 100000
noncomputable def nearB (id : Int) (s : Arr) : Nat → Int
 | 0 => 0
 | k + 1 => if (k : Int) = id ∨ s.at k < 12 then bor (nearB id s k) (shl 1 k) else nearB id s k
theorem near_fit (id : Int) (s : Arr) : ∀ k : Nat, k ≤ 7 → 0 ≤ nearB id s k ∧ nearB id s k < ((2 ^ k : Nat) : Int)
 | 0, _ => by show (0 : Int) ≤ 0 ∧ (0 : Int) < ((2 ^ 0 : Nat) : Int); decide
 | k + 1, h => by
  have ih := near_fit id s k (by omega)
  have e2 : ((2 ^ (k + 1) : Nat) : Int) = 2 * ((2 ^ k : Nat) : Int) := by rw [Nat.pow_succ]; omega
  unfold nearB
  split
  ·rw [zlp (by omega) ih]; omega
  ·omega
theorem zej (id : Int) (s : Arr) {k : Nat} (hk : k < 7) (h : (k : Int) = id ∨ s.at k < 12) : IntKind.i64.wrap (nearB id s k + shl 1 k) = nearB id s (k + 1) := by
 have ih := near_fit id s k (by omega)
 have h2 : 2 ^ k ≤ 2 ^ 6 := Nat.pow_le_pow_right (by decide) (by omega)
 have h3 : (2 : Nat) ^ 6 = 64 := by decide
 rw [show nearB id s (k + 1) = bor (nearB id s k) (shl 1 k) from if_pos h, zlp (by omega) ih, zlf k (by omega)]
 exact zaj (by omega) (by omega)
theorem near_tb {n : Nat} (hn : n < 7) (s : Arr) : ∀ k : Nat, k ≤ 7 → ∀ i, tb (nearB n s k) i = decide (i < k ∧ (i = n ∨ s.at i < 12))
 | 0, _, i => by
  show tb 0 i = _
  rw [zd5]; simp
 | k + 1, hk, i => by
  have ih := near_tb hn s k (by omega) i
  unfold nearB
  split
  ·rename_i h
   rw [tb_or, ih, zdu k i (by omega)]
   rw [Bool.eq_iff_iff]
   simp only [Bool.or_eq_true, decide_eq_true_eq]
   constructor
   ·rintro (h1 | h1)
    ·exact ⟨by omega, h1.2⟩
    ·subst h1; exact ⟨by omega, by rcases h with h | h; exact .inl (by omega); exact .inr h⟩
   ·rintro ⟨h1, h2⟩
    by_cases e : k = i
    ·exact .inr e
    ·exact .inl ⟨by omega, h2⟩
  ·rename_i h
   rw [ih, Bool.eq_iff_iff]
   simp only [decide_eq_true_eq]
   constructor
   ·rintro ⟨h1, h2⟩; exact ⟨by omega, h2⟩
   ·rintro ⟨h1, h2⟩
    refine ⟨?_, h2⟩
    by_cases e : i = k
    ·subst e; exact absurd (by rcases h2 with h2 | h2; exact .inl (by omega); exact .inr h2) h
    ·omega
theorem heard_tb {n : Nat} (hn : n < 7) (s : Arr) : ∀ k : Nat, k ≤ 7 → ∀ i, tb (za2 n s k) i = decide (i = n ∨ (i < k ∧ s.at i < 12))
 | 0, _, i => by
  show tb (shl 1 n) i = _
  rw [zdu n i (by omega), Bool.eq_iff_iff]
  simp only [decide_eq_true_eq]
  omega
 | k + 1, hk, i => by
  have ih := heard_tb hn s k (by omega) i
  unfold za2
  split
  ·rename_i h
   rw [tb_or, ih, zdu k i (by omega), Bool.eq_iff_iff]
   simp only [Bool.or_eq_true, decide_eq_true_eq]
   constructor
   ·rintro ((h1 | h1) | h1)
    ·exact .inl h1
    ·exact .inr ⟨by omega, h1.2⟩
    ·subst h1; exact .inr ⟨by omega, h.2⟩
   ·rintro (h1 | ⟨h1, h2⟩)
    ·exact .inl (.inl h1)
    ·by_cases e : k = i
     ·exact .inr e
     ·exact .inl (.inr ⟨by omega, h2⟩)
  ·rename_i h
   rw [ih, Bool.eq_iff_iff]
   simp only [decide_eq_true_eq]
   constructor
   ·rintro (h1 | ⟨h1, h2⟩)
    ·exact .inl h1
    ·exact .inr ⟨by omega, h2⟩
   ·rintro (h1 | ⟨h1, h2⟩)
    ·exact .inl h1
    ·by_cases e : i = k
     ·subst e
      by_cases e2 : i = n
      ·exact .inl e2
      ·exact absurd ⟨by omega, h2⟩ h
     ·exact .inr ⟨by omega, h2⟩
theorem near_quorum (c : Conf) {id : Int} (hid : 0 ≤ id ∧ id < 7) (s : Arr) : zas c (nearB id s 7) = zas c (za2 id s 7) := by
 obtain ⟨n, rfl⟩ : ∃ n : Nat, id = n := ⟨id.toNat, by omega⟩
 have h : ∀ i, i < 7 → tb (nearB n s 7) i = tb (za2 n s 7) i := fun i hi => by
  rw [near_tb (by omega) s 7 (by omega) i, heard_tb (by omega) s 7 (by omega) i, Bool.eq_iff_iff]
  simp only [decide_eq_true_eq]
  omega
 unfold zas
 rw [count_ext (x := band (bor c.full c.wit) (nearB n s 7)) (y := band (bor c.full c.wit) (za2 n s 7)) fun i hi => by rw [zc6, zc6, h i hi]]
theorem othN_pre (id bits : Int) (i : Nat) : ∀ {j : Nat}, i ≤ j → ∃ t, othN id bits j = othN id bits i ++ t
 | 0, h => ⟨[], by rw [show i = 0 by omega, List.append_nil]⟩
 | j + 1, h => by
  by_cases e : i = j + 1
  ·subst e; exact ⟨[], (List.append_nil _).symm⟩
  ·obtain ⟨t, ht⟩ := othN_pre id bits i (j := j) (by omega)
   by_cases hy : (j : Int) = id ∨ tb bits j = false
   ·rw [ze2 hy]; exact ⟨t, ht⟩
   ·rw [zfe (fun e => hy (.inl e)) (by cases h : tb bits j with | true => rfl | false => exact absurd (.inr h) hy), ht, List.append_assoc]
    exact ⟨_, rfl⟩
theorem zf0 {x : Rft} {id bits : Int} {k : Nat} (hk : k < 7) (hne : (k : Int) ≠ id) (ht : tb bits k = true) (hall : ∀ v ∈ othN id bits k, nowP x v = false) (hp : nowP x k = true) : nowL x (othN id bits 7) = [nowM x k] := by
 obtain ⟨t, e⟩ := othN_pre id bits (k + 1) (j := 7) (by omega)
 rw [e, zfe hne ht]
 have h1 : (othN id bits k).find? (nowP x) = none := List.find?_eq_none.2 fun v hv => by rw [hall v hv]; decide
 have h2 : [(k : Int)].find? (nowP x) = some (k : Int) := by rw [List.find?_cons, hp]
 unfold nowL
 rw [List.find?_append, List.find?_append, h1, h2]; rfl
theorem zih {x : Rft} {id bits : Int} {k : Nat} (hall : ∀ v ∈ othN id bits k, nowP x v = false) (h : (k : Int) = id ∨ tb bits k = false ∨ nowP x k = false) : ∀ v ∈ othN id bits (k + 1), nowP x v = false := by
 by_cases hy : (k : Int) = id ∨ tb bits k = false
 ·rw [ze2 hy]; exact hall
 ·have hp : nowP x k = false := by
    rcases h with h | h | h
    ·exact absurd (.inl h) hy
    ·exact absurd (.inr h) hy
    ·exact h
  rw [zfe (fun e => hy (.inl e)) (by cases h : tb bits k with | true => rfl | false => exact absurd (.inr h) hy)]
  intro v hv
  rcases List.mem_append.1 hv with hv | hv
  ·exact hall v hv
  ·rw [List.mem_singleton.1 hv]; exact hp
theorem now_none {x : Rft} {l : List Int} (hall : ∀ v ∈ l, nowP x v = false) : nowL x l = [] := by
 unfold nowL
 rw [List.find?_eq_none.2 fun v hv => by rw [hall v hv]; decide]
theorem zen {x : Rft} (hw : witB x = true) {k : Nat} (hk : k < 7) (ht : tb (zac x).full k = true) : (k : Int) ≠ x.id := by
 intro e
 unfold witB at hw
 rw [← e, kindR_eq _ hk, if_pos ht] at hw
 exact absurd (hw.symm.trans (by kernel_rfl)) (show ¬ true = false by decide)
set_option maxHeartbeats 16000000 in
theorem c_zbeat (r : Rft) (hf : Fit r) : CtrE Tryz.prog 77 [.pt 1000000 0] [(1000000, r.enc)] [] (.sl 16 (beatO r)) [(1000000, (beatF r).enc)] [] := by
 have hb := hf.base
 have hl0 := hf.log
 have hid := hf.id
 have hR := hf.round
 have hm : r.hard.log.length ≤ maxLen := zam (by omega)
 have kc := zc0 r hm
 have kl := zcb r.hard hm
 have kfc := c_Force r.hard hm (lastI r.hard)
 have hgo : goB r = (zas (zac r) (za2 r.id (beatR r).silent 7) && (zb1 (beatR r) || !decide ((force r.hard (lastI r.hard)).2 ≤ r.commit))) := rfl
 have kq := zi1 (zac r) (nearB r.id (beatR r).silent 7)
 rw [near_quorum (zac r) hid] at kq
 have kfa := zch (beatR r) hm r.hard.term (-1)
 have kvo := zhq (beatR r) hm
 have ksa := c_zsendO (beatR r) ⟨by show r.hard.log.length ≤ _; omega, hf.snap, hf.base, fun i hi => by have := hf.next i hi; show isI (r.next.at i); unfold isI; omega⟩
 have hall2 : (allL (beatR r)).map (zay (beatR r)) = (allL r).map (zay (beatR r)) := rfl
 rw [hall2] at ksa
 unfold beatF beatO
 have ka := c_rAll (zac r)
 have ko := zgx (beat1 r) (bor (bor (bor (zac r).full (zac r).wit) (zac r).learn) (zac r).lwit)
 have kki := c_rKind (zac r) r.id
 rw [← zj8] at kki
 have ew : IntKind.i64.wrap (r.round + 1) = r.round + 1 := zaj (by omega) (by omega)
 have hlen : (allL r).length ≤ 7 := zcd _ _ _
 have hin : ∀ v ∈ allL r, 0 ≤ v ∧ v < 7 := fun v hv => zc5 hv
 have hvs : othN (beat1 r).id (bor (bor (bor (zac r).full (zac r).wit) (zac r).learn) (zac r).lwit) 7 = allL r := rfl
 rw [hvs] at ko
 have hom : (((allL r).map (zay (beatR r))).length + 1) * 176 ≤ 140737488355328 := by rw [List.length_map]; omega
 have hol : ((allL r).map (zay (beatR r))).length + 1 ≤ maxLen := zam (by rw [List.length_map]; omega)
 generalize hot : (allL r).map (zay (beatR r)) = ot at *
 generalize hvs2 : allL r = vs at *
 have hvm : (vs.map encI).length = vs.length := List.length_map ..
 refine zcg mixed Tryz.func77 rfl (by kernel_rfl) (by kernel_rfl) ?_
 refine tSeq ?_
 conv => whnf
 refine tSeq ?_
 conv => whnf
 ((try (refine Exists.intro none ?_; conv => whnf)); (with_reducible refine zaa (kc) ?_); conv => whnf)
 refine tSeq ?_
 conv => whnf
 rw [ew]
 conv => whnf
 refine tSeq ?_
 conv => whnf
 ((try (refine Exists.intro none ?_; conv => whnf)); (with_reducible refine zaa (ka) ?_); conv => whnf)
 ((try ((refine Exists.intro none ?_); (conv => whnf))); refine zak (ko) (by kernel_rfl) ?_; conv => whnf)
 (refine new0 ?_; conv => whnf)
 refine tSeq ?_
 conv => whnf
 refine tFor (fun i : Nat => i ≤ vs.length) (fun i => [(5, iv i)]) (fun i => [(1000000, ({ beat1 r with silent := silL r.silent (vs.take i) } : Rft).enc), (3, (zac r).enc)]) (fun _ => []) [] (fun i => vs.length - i) 0 (Nat.zero_le _) ?_ ?_
 ·conv => whnf
  exact wkD
 intro i hi
 conv => whnf
 (refine tSp (fun h => ?_) (fun h => ?_) <;> conv => whnf)
 ·have hlt : i < vs.length := by omega
  clear h
  have hrow : (vs.map encI)[((i : Nat) : Int).toNat]? = some (encI (vs[i]'hlt)) := zb4 hlt
  have hsucc := silL_snoc r.silent hlt
  have hv := hin _ (List.getElem_mem hlt)
  have hS : (silL r.silent (vs.take i)).fitF := zfl hf.silent fun w hw => hin w (List.mem_of_mem_take hw)
  generalize vs[i]'hlt = v at *
  generalize hSd : silL r.silent (vs.take i) = S at *
  refine ⟨by omega, _, hrow, ?_⟩
  conv => whnf
  refine ⟨by omega, _, hrow, ?_⟩
  conv => whnf
  refine ⟨⟨hv.1, hv.2⟩, ?_⟩
  rcases zc1 hv with e | e | e | e | e | e | e
  ·have hs := hS 0 (by decide)
   have hs : 0 ≤ S.a0 ∧ S.a0 ≤ 1099511627776 := hs
   have ewj : IntKind.i64.wrap (S.a0 + 1) = S.a0 + 1 := zaj (by omega) (by omega)
   have hs1 : sil1 S v = S.put 0 (farM (S.a0 + 1)) := by
    show S.put v.toNat (farM (S.at v.toNat + 1)) = _
    rw [e]; rfl
   rw [e]
   conv => whnf
   refine ⟨⟨hv.1, hv.2⟩, ?_⟩
   rw [e]
   conv => whnf
   refine ⟨i + 1, [], ⟨by omega, by omega⟩, ?_⟩
   rw [hsucc, hs1]
   conv => whnf
   (refine wkx ?_; refine ⟨?_, ?_, ?_⟩ <;> (conv => whnf) <;> repeat' first | exact wkc | (with_reducible refine And.intro ?_ ?_) <;> first | exact wks | refine wko ?_ | refine wki ?_ | refine wkb ?_ | (refine zai ?_; conv => whnf) | (refine zag ?_; conv => whnf) | (refine zae ?_; conv => whnf) | conv => whnf)
   all_goals first | exact w1 (by omega) | rfl | (rw [ewj]; rfl) | trace_state
  ·have hs := hS 1 (by decide)
   have hs : 0 ≤ S.a1 ∧ S.a1 ≤ 1099511627776 := hs
   have ewj : IntKind.i64.wrap (S.a1 + 1) = S.a1 + 1 := zaj (by omega) (by omega)
   have hs1 : sil1 S v = S.put 1 (farM (S.a1 + 1)) := by
    show S.put v.toNat (farM (S.at v.toNat + 1)) = _
    rw [e]; rfl
   rw [e]
   conv => whnf
   refine ⟨⟨hv.1, hv.2⟩, ?_⟩
   rw [e]
   conv => whnf
   refine ⟨i + 1, [], ⟨by omega, by omega⟩, ?_⟩
   rw [hsucc, hs1]
   conv => whnf
   (refine wkx ?_; refine ⟨?_, ?_, ?_⟩ <;> (conv => whnf) <;> repeat' first | exact wkc | (with_reducible refine And.intro ?_ ?_) <;> first | exact wks | refine wko ?_ | refine wki ?_ | refine wkb ?_ | (refine zai ?_; conv => whnf) | (refine zag ?_; conv => whnf) | (refine zae ?_; conv => whnf) | conv => whnf)
   all_goals first | exact w1 (by omega) | rfl | (rw [ewj]; rfl) | trace_state
  ·have hs := hS 2 (by decide)
   have hs : 0 ≤ S.a2 ∧ S.a2 ≤ 1099511627776 := hs
   have ewj : IntKind.i64.wrap (S.a2 + 1) = S.a2 + 1 := zaj (by omega) (by omega)
   have hs1 : sil1 S v = S.put 2 (farM (S.a2 + 1)) := by
    show S.put v.toNat (farM (S.at v.toNat + 1)) = _
    rw [e]; rfl
   rw [e]
   conv => whnf
   refine ⟨⟨hv.1, hv.2⟩, ?_⟩
   rw [e]
   conv => whnf
   refine ⟨i + 1, [], ⟨by omega, by omega⟩, ?_⟩
   rw [hsucc, hs1]
   conv => whnf
   (refine wkx ?_; refine ⟨?_, ?_, ?_⟩ <;> (conv => whnf) <;> repeat' first | exact wkc | (with_reducible refine And.intro ?_ ?_) <;> first | exact wks | refine wko ?_ | refine wki ?_ | refine wkb ?_ | (refine zai ?_; conv => whnf) | (refine zag ?_; conv => whnf) | (refine zae ?_; conv => whnf) | conv => whnf)
   all_goals first | exact w1 (by omega) | rfl | (rw [ewj]; rfl) | trace_state
  ·have hs := hS 3 (by decide)
   have hs : 0 ≤ S.a3 ∧ S.a3 ≤ 1099511627776 := hs
   have ewj : IntKind.i64.wrap (S.a3 + 1) = S.a3 + 1 := zaj (by omega) (by omega)
   have hs1 : sil1 S v = S.put 3 (farM (S.a3 + 1)) := by
    show S.put v.toNat (farM (S.at v.toNat + 1)) = _
    rw [e]; rfl
   rw [e]
   conv => whnf
   refine ⟨⟨hv.1, hv.2⟩, ?_⟩
   rw [e]
   conv => whnf
   refine ⟨i + 1, [], ⟨by omega, by omega⟩, ?_⟩
   rw [hsucc, hs1]
   conv => whnf
   (refine wkx ?_; refine ⟨?_, ?_, ?_⟩ <;> (conv => whnf) <;> repeat' first | exact wkc | (with_reducible refine And.intro ?_ ?_) <;> first | exact wks | refine wko ?_ | refine wki ?_ | refine wkb ?_ | (refine zai ?_; conv => whnf) | (refine zag ?_; conv => whnf) | (refine zae ?_; conv => whnf) | conv => whnf)
   all_goals first | exact w1 (by omega) | rfl | (rw [ewj]; rfl) | trace_state
  ·have hs := hS 4 (by decide)
   have hs : 0 ≤ S.a4 ∧ S.a4 ≤ 1099511627776 := hs
   have ewj : IntKind.i64.wrap (S.a4 + 1) = S.a4 + 1 := zaj (by omega) (by omega)
   have hs1 : sil1 S v = S.put 4 (farM (S.a4 + 1)) := by
    show S.put v.toNat (farM (S.at v.toNat + 1)) = _
    rw [e]; rfl
   rw [e]
   conv => whnf
   refine ⟨⟨hv.1, hv.2⟩, ?_⟩
   rw [e]
   conv => whnf
   refine ⟨i + 1, [], ⟨by omega, by omega⟩, ?_⟩
   rw [hsucc, hs1]
   conv => whnf
   (refine wkx ?_; refine ⟨?_, ?_, ?_⟩ <;> (conv => whnf) <;> repeat' first | exact wkc | (with_reducible refine And.intro ?_ ?_) <;> first | exact wks | refine wko ?_ | refine wki ?_ | refine wkb ?_ | (refine zai ?_; conv => whnf) | (refine zag ?_; conv => whnf) | (refine zae ?_; conv => whnf) | conv => whnf)
   all_goals first | exact w1 (by omega) | rfl | (rw [ewj]; rfl) | trace_state
  ·have hs := hS 5 (by decide)
   have hs : 0 ≤ S.a5 ∧ S.a5 ≤ 1099511627776 := hs
   have ewj : IntKind.i64.wrap (S.a5 + 1) = S.a5 + 1 := zaj (by omega) (by omega)
   have hs1 : sil1 S v = S.put 5 (farM (S.a5 + 1)) := by
    show S.put v.toNat (farM (S.at v.toNat + 1)) = _
    rw [e]; rfl
   rw [e]
   conv => whnf
   refine ⟨⟨hv.1, hv.2⟩, ?_⟩
   rw [e]
   conv => whnf
   refine ⟨i + 1, [], ⟨by omega, by omega⟩, ?_⟩
   rw [hsucc, hs1]
   conv => whnf
   (refine wkx ?_; refine ⟨?_, ?_, ?_⟩ <;> (conv => whnf) <;> repeat' first | exact wkc | (with_reducible refine And.intro ?_ ?_) <;> first | exact wks | refine wko ?_ | refine wki ?_ | refine wkb ?_ | (refine zai ?_; conv => whnf) | (refine zag ?_; conv => whnf) | (refine zae ?_; conv => whnf) | conv => whnf)
   all_goals first | exact w1 (by omega) | rfl | (rw [ewj]; rfl) | trace_state
  ·have hs := hS 6 (by decide)
   have hs : 0 ≤ S.a6 ∧ S.a6 ≤ 1099511627776 := hs
   have ewj : IntKind.i64.wrap (S.a6 + 1) = S.a6 + 1 := zaj (by omega) (by omega)
   have hs1 : sil1 S v = S.put 6 (farM (S.a6 + 1)) := by
    show S.put v.toNat (farM (S.at v.toNat + 1)) = _
    rw [e]; rfl
   rw [e]
   conv => whnf
   refine ⟨⟨hv.1, hv.2⟩, ?_⟩
   rw [e]
   conv => whnf
   refine ⟨i + 1, [], ⟨by omega, by omega⟩, ?_⟩
   rw [hsucc, hs1]
   conv => whnf
   (refine wkx ?_; refine ⟨?_, ?_, ?_⟩ <;> (conv => whnf) <;> repeat' first | exact wkc | (with_reducible refine And.intro ?_ ?_) <;> first | exact wks | refine wko ?_ | refine wki ?_ | refine wkb ?_ | (refine zai ?_; conv => whnf) | (refine zag ?_; conv => whnf) | (refine zae ?_; conv => whnf) | conv => whnf)
   all_goals first | exact w1 (by omega) | rfl | (rw [ewj]; rfl) | trace_state
 ·have ei : i = vs.length := by omega
  subst ei
  clear h
  rw [List.take_length]
  conv => whnf
  subst hvs2
  have hSf : (beatR r).silent.fitF := zfl hf.silent hin
  refine tSeq ?_
  conv => whnf
  refine tSeq ?_
  conv => whnf
  refine tFor (fun k : Nat => k ≤ 7) (fun k => [(7, iv k), (6, iv (nearB r.id (beatR r).silent k))]) (fun _ => [(1000000, (beatR r).enc), (3, (zac r).enc)]) (fun _ => []) [] (fun k => 7 - k) 0 (Nat.zero_le _) ?_ ?_
  ·conv => whnf
   exact wkD
  intro k hk
  rcases (by omega : k = 0 ∨ k = 1 ∨ k = 2 ∨ k = 3 ∨ k = 4 ∨ k = 5 ∨ k = 6 ∨ k = 7) with rfl | rfl | rfl | rfl | rfl | rfl | rfl | rfl
  ·have hn1 : ¬ (((0 : Nat) : Int) = r.id ∨ (beatR r).silent.a0 < 12) → nearB r.id (beatR r).silent 1 = nearB r.id (beatR r).silent 0 := fun a => if_neg a
   have hy1 : ((0 : Nat) : Int) = r.id ∨ (beatR r).silent.a0 < 12 → IntKind.i64.wrap (nearB r.id (beatR r).silent 0 + shl 1 0) = nearB r.id (beatR r).silent 1 := fun a => zej (k := 0) r.id (beatR r).silent (by decide) a
   generalize nearB r.id (beatR r).silent 0 = w0 at *
   generalize hw1 : nearB r.id (beatR r).silent 1 = w1' at *
   conv => whnf
   (refine tSp (fun h => ?_) (fun h => ?_) <;> conv => whnf)
   ·have h1 : ((0 : Nat) : Int) = r.id := h
    clear h
    have e := hy1 (.inl h1)
    ((with_reducible refine And.intro (And.intro (by first | decide | omega) (by first | decide | omega)) ?_); conv => whnf)
    refine ⟨1, [], ⟨by omega, by omega⟩, ?_⟩
    conv => whnf
    (refine wkx ?_; refine ⟨?_, ?_, ?_⟩ <;> (conv => whnf) <;> repeat' first | exact wkc | (with_reducible refine And.intro ?_ ?_) <;> first | exact wks | refine wko ?_ | refine wki ?_ | refine wkb ?_ | (refine zai ?_; conv => whnf) | (refine zag ?_; conv => whnf) | (refine zae ?_; conv => whnf) | conv => whnf)
    all_goals first | rfl | exact e.trans hw1.symm | trace_state
   ·have h1 : ¬ ((0 : Nat) : Int) = r.id := h
    clear h
    refine ⟨⟨by decide, by decide⟩, ?_⟩
    conv => whnf
    (refine tSp (fun h => ?_) (fun h => ?_) <;> conv => whnf)
    ·have h2 : (beatR r).silent.a0 < 12 := h
     clear h
     have e := hy1 (.inr h2)
     ((with_reducible refine And.intro (And.intro (by first | decide | omega) (by first | decide | omega)) ?_); conv => whnf)
     refine ⟨1, [], ⟨by omega, by omega⟩, ?_⟩
     conv => whnf
     (refine wkx ?_; refine ⟨?_, ?_, ?_⟩ <;> (conv => whnf) <;> repeat' first | exact wkc | (with_reducible refine And.intro ?_ ?_) <;> first | exact wks | refine wko ?_ | refine wki ?_ | refine wkb ?_ | (refine zai ?_; conv => whnf) | (refine zag ?_; conv => whnf) | (refine zae ?_; conv => whnf) | conv => whnf)
     all_goals first | rfl | exact e.trans hw1.symm | trace_state
    ·have h2 : ¬ (beatR r).silent.a0 < 12 := h
     clear h
     have e := hn1 (fun a => a.elim h1 h2)
     refine ⟨1, [], ⟨by omega, by omega⟩, ?_⟩
     conv => whnf
     (refine wkx ?_; refine ⟨?_, ?_, ?_⟩ <;> (conv => whnf) <;> repeat' first | exact wkc | (with_reducible refine And.intro ?_ ?_) <;> first | exact wks | refine wko ?_ | refine wki ?_ | refine wkb ?_ | (refine zai ?_; conv => whnf) | (refine zag ?_; conv => whnf) | (refine zae ?_; conv => whnf) | conv => whnf)
     all_goals first | rfl | exact e.symm.trans hw1.symm | trace_state
  ·have hn1 : ¬ (((1 : Nat) : Int) = r.id ∨ (beatR r).silent.a1 < 12) → nearB r.id (beatR r).silent 2 = nearB r.id (beatR r).silent 1 := fun a => if_neg a
   have hy1 : ((1 : Nat) : Int) = r.id ∨ (beatR r).silent.a1 < 12 → IntKind.i64.wrap (nearB r.id (beatR r).silent 1 + shl 1 1) = nearB r.id (beatR r).silent 2 := fun a => zej (k := 1) r.id (beatR r).silent (by decide) a
   generalize nearB r.id (beatR r).silent 1 = w0 at *
   generalize hw1 : nearB r.id (beatR r).silent 2 = w1' at *
   conv => whnf
   (refine tSp (fun h => ?_) (fun h => ?_) <;> conv => whnf)
   ·have h1 : ((1 : Nat) : Int) = r.id := h
    clear h
    have e := hy1 (.inl h1)
    ((with_reducible refine And.intro (And.intro (by first | decide | omega) (by first | decide | omega)) ?_); conv => whnf)
    refine ⟨2, [], ⟨by omega, by omega⟩, ?_⟩
    conv => whnf
    (refine wkx ?_; refine ⟨?_, ?_, ?_⟩ <;> (conv => whnf) <;> repeat' first | exact wkc | (with_reducible refine And.intro ?_ ?_) <;> first | exact wks | refine wko ?_ | refine wki ?_ | refine wkb ?_ | (refine zai ?_; conv => whnf) | (refine zag ?_; conv => whnf) | (refine zae ?_; conv => whnf) | conv => whnf)
    all_goals first | rfl | exact e.trans hw1.symm | trace_state
   ·have h1 : ¬ ((1 : Nat) : Int) = r.id := h
    clear h
    refine ⟨⟨by decide, by decide⟩, ?_⟩
    conv => whnf
    (refine tSp (fun h => ?_) (fun h => ?_) <;> conv => whnf)
    ·have h2 : (beatR r).silent.a1 < 12 := h
     clear h
     have e := hy1 (.inr h2)
     ((with_reducible refine And.intro (And.intro (by first | decide | omega) (by first | decide | omega)) ?_); conv => whnf)
     refine ⟨2, [], ⟨by omega, by omega⟩, ?_⟩
     conv => whnf
     (refine wkx ?_; refine ⟨?_, ?_, ?_⟩ <;> (conv => whnf) <;> repeat' first | exact wkc | (with_reducible refine And.intro ?_ ?_) <;> first | exact wks | refine wko ?_ | refine wki ?_ | refine wkb ?_ | (refine zai ?_; conv => whnf) | (refine zag ?_; conv => whnf) | (refine zae ?_; conv => whnf) | conv => whnf)
     all_goals first | rfl | exact e.trans hw1.symm | trace_state
    ·have h2 : ¬ (beatR r).silent.a1 < 12 := h
     clear h
     have e := hn1 (fun a => a.elim h1 h2)
     refine ⟨2, [], ⟨by omega, by omega⟩, ?_⟩
     conv => whnf
     (refine wkx ?_; refine ⟨?_, ?_, ?_⟩ <;> (conv => whnf) <;> repeat' first | exact wkc | (with_reducible refine And.intro ?_ ?_) <;> first | exact wks | refine wko ?_ | refine wki ?_ | refine wkb ?_ | (refine zai ?_; conv => whnf) | (refine zag ?_; conv => whnf) | (refine zae ?_; conv => whnf) | conv => whnf)
     all_goals first | rfl | exact e.symm.trans hw1.symm | trace_state
  ·have hn1 : ¬ (((2 : Nat) : Int) = r.id ∨ (beatR r).silent.a2 < 12) → nearB r.id (beatR r).silent 3 = nearB r.id (beatR r).silent 2 := fun a => if_neg a
   have hy1 : ((2 : Nat) : Int) = r.id ∨ (beatR r).silent.a2 < 12 → IntKind.i64.wrap (nearB r.id (beatR r).silent 2 + shl 1 2) = nearB r.id (beatR r).silent 3 := fun a => zej (k := 2) r.id (beatR r).silent (by decide) a
   generalize nearB r.id (beatR r).silent 2 = w0 at *
   generalize hw1 : nearB r.id (beatR r).silent 3 = w1' at *
   conv => whnf
   (refine tSp (fun h => ?_) (fun h => ?_) <;> conv => whnf)
   ·have h1 : ((2 : Nat) : Int) = r.id := h
    clear h
    have e := hy1 (.inl h1)
    ((with_reducible refine And.intro (And.intro (by first | decide | omega) (by first | decide | omega)) ?_); conv => whnf)
    refine ⟨3, [], ⟨by omega, by omega⟩, ?_⟩
    conv => whnf
    (refine wkx ?_; refine ⟨?_, ?_, ?_⟩ <;> (conv => whnf) <;> repeat' first | exact wkc | (with_reducible refine And.intro ?_ ?_) <;> first | exact wks | refine wko ?_ | refine wki ?_ | refine wkb ?_ | (refine zai ?_; conv => whnf) | (refine zag ?_; conv => whnf) | (refine zae ?_; conv => whnf) | conv => whnf)
    all_goals first | rfl | exact e.trans hw1.symm | trace_state
   ·have h1 : ¬ ((2 : Nat) : Int) = r.id := h
    clear h
    refine ⟨⟨by decide, by decide⟩, ?_⟩
    conv => whnf
    (refine tSp (fun h => ?_) (fun h => ?_) <;> conv => whnf)
    ·have h2 : (beatR r).silent.a2 < 12 := h
     clear h
     have e := hy1 (.inr h2)
     ((with_reducible refine And.intro (And.intro (by first | decide | omega) (by first | decide | omega)) ?_); conv => whnf)
     refine ⟨3, [], ⟨by omega, by omega⟩, ?_⟩
     conv => whnf
     (refine wkx ?_; refine ⟨?_, ?_, ?_⟩ <;> (conv => whnf) <;> repeat' first | exact wkc | (with_reducible refine And.intro ?_ ?_) <;> first | exact wks | refine wko ?_ | refine wki ?_ | refine wkb ?_ | (refine zai ?_; conv => whnf) | (refine zag ?_; conv => whnf) | (refine zae ?_; conv => whnf) | conv => whnf)
     all_goals first | rfl | exact e.trans hw1.symm | trace_state
    ·have h2 : ¬ (beatR r).silent.a2 < 12 := h
     clear h
     have e := hn1 (fun a => a.elim h1 h2)
     refine ⟨3, [], ⟨by omega, by omega⟩, ?_⟩
     conv => whnf
     (refine wkx ?_; refine ⟨?_, ?_, ?_⟩ <;> (conv => whnf) <;> repeat' first | exact wkc | (with_reducible refine And.intro ?_ ?_) <;> first | exact wks | refine wko ?_ | refine wki ?_ | refine wkb ?_ | (refine zai ?_; conv => whnf) | (refine zag ?_; conv => whnf) | (refine zae ?_; conv => whnf) | conv => whnf)
     all_goals first | rfl | exact e.symm.trans hw1.symm | trace_state
  ·have hn1 : ¬ (((3 : Nat) : Int) = r.id ∨ (beatR r).silent.a3 < 12) → nearB r.id (beatR r).silent 4 = nearB r.id (beatR r).silent 3 := fun a => if_neg a
   have hy1 : ((3 : Nat) : Int) = r.id ∨ (beatR r).silent.a3 < 12 → IntKind.i64.wrap (nearB r.id (beatR r).silent 3 + shl 1 3) = nearB r.id (beatR r).silent 4 := fun a => zej (k := 3) r.id (beatR r).silent (by decide) a
   generalize nearB r.id (beatR r).silent 3 = w0 at *
   generalize hw1 : nearB r.id (beatR r).silent 4 = w1' at *
   conv => whnf
   (refine tSp (fun h => ?_) (fun h => ?_) <;> conv => whnf)
   ·have h1 : ((3 : Nat) : Int) = r.id := h
    clear h
    have e := hy1 (.inl h1)
    ((with_reducible refine And.intro (And.intro (by first | decide | omega) (by first | decide | omega)) ?_); conv => whnf)
    refine ⟨4, [], ⟨by omega, by omega⟩, ?_⟩
    conv => whnf
    (refine wkx ?_; refine ⟨?_, ?_, ?_⟩ <;> (conv => whnf) <;> repeat' first | exact wkc | (with_reducible refine And.intro ?_ ?_) <;> first | exact wks | refine wko ?_ | refine wki ?_ | refine wkb ?_ | (refine zai ?_; conv => whnf) | (refine zag ?_; conv => whnf) | (refine zae ?_; conv => whnf) | conv => whnf)
    all_goals first | rfl | exact e.trans hw1.symm | trace_state
   ·have h1 : ¬ ((3 : Nat) : Int) = r.id := h
    clear h
    refine ⟨⟨by decide, by decide⟩, ?_⟩
    conv => whnf
    (refine tSp (fun h => ?_) (fun h => ?_) <;> conv => whnf)
    ·have h2 : (beatR r).silent.a3 < 12 := h
     clear h
     have e := hy1 (.inr h2)
     ((with_reducible refine And.intro (And.intro (by first | decide | omega) (by first | decide | omega)) ?_); conv => whnf)
     refine ⟨4, [], ⟨by omega, by omega⟩, ?_⟩
     conv => whnf
     (refine wkx ?_; refine ⟨?_, ?_, ?_⟩ <;> (conv => whnf) <;> repeat' first | exact wkc | (with_reducible refine And.intro ?_ ?_) <;> first | exact wks | refine wko ?_ | refine wki ?_ | refine wkb ?_ | (refine zai ?_; conv => whnf) | (refine zag ?_; conv => whnf) | (refine zae ?_; conv => whnf) | conv => whnf)
     all_goals first | rfl | exact e.trans hw1.symm | trace_state
    ·have h2 : ¬ (beatR r).silent.a3 < 12 := h
     clear h
     have e := hn1 (fun a => a.elim h1 h2)
     refine ⟨4, [], ⟨by omega, by omega⟩, ?_⟩
     conv => whnf
     (refine wkx ?_; refine ⟨?_, ?_, ?_⟩ <;> (conv => whnf) <;> repeat' first | exact wkc | (with_reducible refine And.intro ?_ ?_) <;> first | exact wks | refine wko ?_ | refine wki ?_ | refine wkb ?_ | (refine zai ?_; conv => whnf) | (refine zag ?_; conv => whnf) | (refine zae ?_; conv => whnf) | conv => whnf)
     all_goals first | rfl | exact e.symm.trans hw1.symm | trace_state
  ·have hn1 : ¬ (((4 : Nat) : Int) = r.id ∨ (beatR r).silent.a4 < 12) → nearB r.id (beatR r).silent 5 = nearB r.id (beatR r).silent 4 := fun a => if_neg a
   have hy1 : ((4 : Nat) : Int) = r.id ∨ (beatR r).silent.a4 < 12 → IntKind.i64.wrap (nearB r.id (beatR r).silent 4 + shl 1 4) = nearB r.id (beatR r).silent 5 := fun a => zej (k := 4) r.id (beatR r).silent (by decide) a
   generalize nearB r.id (beatR r).silent 4 = w0 at *
   generalize hw1 : nearB r.id (beatR r).silent 5 = w1' at *
   conv => whnf
   (refine tSp (fun h => ?_) (fun h => ?_) <;> conv => whnf)
   ·have h1 : ((4 : Nat) : Int) = r.id := h
    clear h
    have e := hy1 (.inl h1)
    ((with_reducible refine And.intro (And.intro (by first | decide | omega) (by first | decide | omega)) ?_); conv => whnf)
    refine ⟨5, [], ⟨by omega, by omega⟩, ?_⟩
    conv => whnf
    (refine wkx ?_; refine ⟨?_, ?_, ?_⟩ <;> (conv => whnf) <;> repeat' first | exact wkc | (with_reducible refine And.intro ?_ ?_) <;> first | exact wks | refine wko ?_ | refine wki ?_ | refine wkb ?_ | (refine zai ?_; conv => whnf) | (refine zag ?_; conv => whnf) | (refine zae ?_; conv => whnf) | conv => whnf)
    all_goals first | rfl | exact e.trans hw1.symm | trace_state
   ·have h1 : ¬ ((4 : Nat) : Int) = r.id := h
    clear h
    refine ⟨⟨by decide, by decide⟩, ?_⟩
    conv => whnf
    (refine tSp (fun h => ?_) (fun h => ?_) <;> conv => whnf)
    ·have h2 : (beatR r).silent.a4 < 12 := h
     clear h
     have e := hy1 (.inr h2)
     ((with_reducible refine And.intro (And.intro (by first | decide | omega) (by first | decide | omega)) ?_); conv => whnf)
     refine ⟨5, [], ⟨by omega, by omega⟩, ?_⟩
     conv => whnf
     (refine wkx ?_; refine ⟨?_, ?_, ?_⟩ <;> (conv => whnf) <;> repeat' first | exact wkc | (with_reducible refine And.intro ?_ ?_) <;> first | exact wks | refine wko ?_ | refine wki ?_ | refine wkb ?_ | (refine zai ?_; conv => whnf) | (refine zag ?_; conv => whnf) | (refine zae ?_; conv => whnf) | conv => whnf)
     all_goals first | rfl | exact e.trans hw1.symm | trace_state
    ·have h2 : ¬ (beatR r).silent.a4 < 12 := h
     clear h
     have e := hn1 (fun a => a.elim h1 h2)
     refine ⟨5, [], ⟨by omega, by omega⟩, ?_⟩
     conv => whnf
     (refine wkx ?_; refine ⟨?_, ?_, ?_⟩ <;> (conv => whnf) <;> repeat' first | exact wkc | (with_reducible refine And.intro ?_ ?_) <;> first | exact wks | refine wko ?_ | refine wki ?_ | refine wkb ?_ | (refine zai ?_; conv => whnf) | (refine zag ?_; conv => whnf) | (refine zae ?_; conv => whnf) | conv => whnf)
     all_goals first | rfl | exact e.symm.trans hw1.symm | trace_state
  ·have hn1 : ¬ (((5 : Nat) : Int) = r.id ∨ (beatR r).silent.a5 < 12) → nearB r.id (beatR r).silent 6 = nearB r.id (beatR r).silent 5 := fun a => if_neg a
   have hy1 : ((5 : Nat) : Int) = r.id ∨ (beatR r).silent.a5 < 12 → IntKind.i64.wrap (nearB r.id (beatR r).silent 5 + shl 1 5) = nearB r.id (beatR r).silent 6 := fun a => zej (k := 5) r.id (beatR r).silent (by decide) a
   generalize nearB r.id (beatR r).silent 5 = w0 at *
   generalize hw1 : nearB r.id (beatR r).silent 6 = w1' at *
   conv => whnf
   (refine tSp (fun h => ?_) (fun h => ?_) <;> conv => whnf)
   ·have h1 : ((5 : Nat) : Int) = r.id := h
    clear h
    have e := hy1 (.inl h1)
    ((with_reducible refine And.intro (And.intro (by first | decide | omega) (by first | decide | omega)) ?_); conv => whnf)
    refine ⟨6, [], ⟨by omega, by omega⟩, ?_⟩
    conv => whnf
    (refine wkx ?_; refine ⟨?_, ?_, ?_⟩ <;> (conv => whnf) <;> repeat' first | exact wkc | (with_reducible refine And.intro ?_ ?_) <;> first | exact wks | refine wko ?_ | refine wki ?_ | refine wkb ?_ | (refine zai ?_; conv => whnf) | (refine zag ?_; conv => whnf) | (refine zae ?_; conv => whnf) | conv => whnf)
    all_goals first | rfl | exact e.trans hw1.symm | trace_state
   ·have h1 : ¬ ((5 : Nat) : Int) = r.id := h
    clear h
    refine ⟨⟨by decide, by decide⟩, ?_⟩
    conv => whnf
    (refine tSp (fun h => ?_) (fun h => ?_) <;> conv => whnf)
    ·have h2 : (beatR r).silent.a5 < 12 := h
     clear h
     have e := hy1 (.inr h2)
     ((with_reducible refine And.intro (And.intro (by first | decide | omega) (by first | decide | omega)) ?_); conv => whnf)
     refine ⟨6, [], ⟨by omega, by omega⟩, ?_⟩
     conv => whnf
     (refine wkx ?_; refine ⟨?_, ?_, ?_⟩ <;> (conv => whnf) <;> repeat' first | exact wkc | (with_reducible refine And.intro ?_ ?_) <;> first | exact wks | refine wko ?_ | refine wki ?_ | refine wkb ?_ | (refine zai ?_; conv => whnf) | (refine zag ?_; conv => whnf) | (refine zae ?_; conv => whnf) | conv => whnf)
     all_goals first | rfl | exact e.trans hw1.symm | trace_state
    ·have h2 : ¬ (beatR r).silent.a5 < 12 := h
     clear h
     have e := hn1 (fun a => a.elim h1 h2)
     refine ⟨6, [], ⟨by omega, by omega⟩, ?_⟩
     conv => whnf
     (refine wkx ?_; refine ⟨?_, ?_, ?_⟩ <;> (conv => whnf) <;> repeat' first | exact wkc | (with_reducible refine And.intro ?_ ?_) <;> first | exact wks | refine wko ?_ | refine wki ?_ | refine wkb ?_ | (refine zai ?_; conv => whnf) | (refine zag ?_; conv => whnf) | (refine zae ?_; conv => whnf) | conv => whnf)
     all_goals first | rfl | exact e.symm.trans hw1.symm | trace_state
  ·have hn1 : ¬ (((6 : Nat) : Int) = r.id ∨ (beatR r).silent.a6 < 12) → nearB r.id (beatR r).silent 7 = nearB r.id (beatR r).silent 6 := fun a => if_neg a
   have hy1 : ((6 : Nat) : Int) = r.id ∨ (beatR r).silent.a6 < 12 → IntKind.i64.wrap (nearB r.id (beatR r).silent 6 + shl 1 6) = nearB r.id (beatR r).silent 7 := fun a => zej (k := 6) r.id (beatR r).silent (by decide) a
   generalize nearB r.id (beatR r).silent 6 = w0 at *
   generalize hw1 : nearB r.id (beatR r).silent 7 = w1' at *
   conv => whnf
   (refine tSp (fun h => ?_) (fun h => ?_) <;> conv => whnf)
   ·have h1 : ((6 : Nat) : Int) = r.id := h
    clear h
    have e := hy1 (.inl h1)
    ((with_reducible refine And.intro (And.intro (by first | decide | omega) (by first | decide | omega)) ?_); conv => whnf)
    refine ⟨7, [], ⟨by omega, by omega⟩, ?_⟩
    conv => whnf
    (refine wkx ?_; refine ⟨?_, ?_, ?_⟩ <;> (conv => whnf) <;> repeat' first | exact wkc | (with_reducible refine And.intro ?_ ?_) <;> first | exact wks | refine wko ?_ | refine wki ?_ | refine wkb ?_ | (refine zai ?_; conv => whnf) | (refine zag ?_; conv => whnf) | (refine zae ?_; conv => whnf) | conv => whnf)
    all_goals first | rfl | exact e.trans hw1.symm | trace_state
   ·have h1 : ¬ ((6 : Nat) : Int) = r.id := h
    clear h
    refine ⟨⟨by decide, by decide⟩, ?_⟩
    conv => whnf
    (refine tSp (fun h => ?_) (fun h => ?_) <;> conv => whnf)
    ·have h2 : (beatR r).silent.a6 < 12 := h
     clear h
     have e := hy1 (.inr h2)
     ((with_reducible refine And.intro (And.intro (by first | decide | omega) (by first | decide | omega)) ?_); conv => whnf)
     refine ⟨7, [], ⟨by omega, by omega⟩, ?_⟩
     conv => whnf
     (refine wkx ?_; refine ⟨?_, ?_, ?_⟩ <;> (conv => whnf) <;> repeat' first | exact wkc | (with_reducible refine And.intro ?_ ?_) <;> first | exact wks | refine wko ?_ | refine wki ?_ | refine wkb ?_ | (refine zai ?_; conv => whnf) | (refine zag ?_; conv => whnf) | (refine zae ?_; conv => whnf) | conv => whnf)
     all_goals first | rfl | exact e.trans hw1.symm | trace_state
    ·have h2 : ¬ (beatR r).silent.a6 < 12 := h
     clear h
     have e := hn1 (fun a => a.elim h1 h2)
     refine ⟨7, [], ⟨by omega, by omega⟩, ?_⟩
     conv => whnf
     (refine wkx ?_; refine ⟨?_, ?_, ?_⟩ <;> (conv => whnf) <;> repeat' first | exact wkc | (with_reducible refine And.intro ?_ ?_) <;> first | exact wks | refine wko ?_ | refine wki ?_ | refine wkb ?_ | (refine zai ?_; conv => whnf) | (refine zag ?_; conv => whnf) | (refine zae ?_; conv => whnf) | conv => whnf)
     all_goals first | rfl | exact e.symm.trans hw1.symm | trace_state
  ·conv => whnf
   refine tSeq ?_
   conv => whnf
   ((try (refine Exists.intro none ?_; conv => whnf)); (with_reducible refine zaa (kl) ?_); conv => whnf)
   refine tSeq ?_
   conv => whnf
   ((try (refine Exists.intro none ?_; conv => whnf)); (with_reducible refine zaa (kfc) ?_); conv => whnf)
   refine tCut (fun _ : Unit => goB r = true) (fun _ => []) (fun _ => [(1000000, (beatR r).enc), (3, (zac r).enc), (10, (force r.hard (lastI r.hard)).1.enc)]) (fun _ => []) ?_ ?_
   ·conv => whnf
    cases hq : zas (zac r) (za2 r.id (beatR r).silent 7) with
    | false =>
     rw [hq] at kq
     have hg : goB r = false := by rw [hgo, hq]; rfl
     rw [hg, if_neg (show ¬ false = true by decide), if_neg (show ¬ false = true by decide)]
     ((try (refine Exists.intro none ?_; conv => whnf)); (with_reducible refine zaa (kq) ?_); conv => whnf)
     ((refine Exists.intro (some ([(1000000, 1000000)], [], [])) ?_); (conv => whnf); refine zau (kfa) (by kernel_rfl) (by kernel_rfl) (by kernel_rfl) ?_; conv => whnf)
     (refine zaf [] [] ?_; (conv => whnf); exact wkD)
    | true =>
     rw [hq] at kq
     cases hv : zb1 (beatR r) with
     | true =>
      have hg : goB r = true := by rw [hgo, hq, hv]; rfl
      rw [show bitB (bor (zac (beatR r)).full (zac (beatR r)).wit) (beatR r).id = true from hv] at kvo
      ((try (refine Exists.intro none ?_; conv => whnf)); (with_reducible refine zaa (kq) ?_); conv => whnf)
      ((try ((refine Exists.intro none ?_); (conv => whnf))); refine zak (kvo) (by kernel_rfl) ?_; conv => whnf)
      refine ⟨(), [], hg, ?_⟩
      conv => whnf
      exact wkD
     | false =>
      rw [show bitB (bor (zac (beatR r)).full (zac (beatR r)).wit) (beatR r).id = false from hv] at kvo
      by_cases hat : (force r.hard (lastI r.hard)).2 ≤ r.commit
      ·have hg : goB r = false := by rw [hgo, hq, hv, decide_eq_true hat]; rfl
       rw [hg, if_neg (show ¬ false = true by decide), if_neg (show ¬ false = true by decide)]
       ((try (refine Exists.intro none ?_; conv => whnf)); (with_reducible refine zaa (kq) ?_); conv => whnf)
       ((try ((refine Exists.intro none ?_); (conv => whnf))); refine zak (kvo) (by kernel_rfl) ?_; conv => whnf)
       (first | refine tYes ?_ | refine tNo ?_)
       conv => whnf
       ((refine Exists.intro (some ([(1000000, 1000000)], [], [])) ?_); (conv => whnf); refine zau (kfa) (by kernel_rfl) (by kernel_rfl) (by kernel_rfl) ?_; conv => whnf)
       (refine zaf [] [] ?_; (conv => whnf); exact wkD)
      ·have hg : goB r = true := by rw [hgo, hq, hv, decide_eq_false hat]; rfl
       ((try (refine Exists.intro none ?_; conv => whnf)); (with_reducible refine zaa (kq) ?_); conv => whnf)
       ((try ((refine Exists.intro none ?_); (conv => whnf))); refine zak (kvo) (by kernel_rfl) ?_; conv => whnf)
       (first | refine tYes ?_ | refine tNo ?_)
       conv => whnf
       refine ⟨(), [], hg, ?_⟩
       conv => whnf
       exact wkD
   rintro _ hg
   rw [if_pos hg, if_pos hg]
   conv => whnf
   refine tSeq ?_
   conv => whnf
   ((try ((refine Exists.intro none ?_); (conv => whnf))); refine zak (ksa) (by kernel_rfl) ?_; conv => whnf)
   (refine Exists.intro _ (And.intro rfl (And.intro (by intro q hq; first | (cases hq; done) | (simp only [List.mem_cons, List.not_mem_nil, or_false] at hq; rcases hq with rfl | rfl <;> (simp only [List.length_cons, List.length_nil]; omega)) | (simp only [List.mem_cons, List.not_mem_nil, or_false] at hq; subst hq; simp only [List.length_cons, List.length_nil]; omega)) (And.intro (by intro i hi; simp only [List.length_cons, List.length_nil, Nat.lt_one_iff, Nat.zero_add] at hi; subst hi; rfl) ?_))); conv => whnf)
   refine tSeq ?_
   conv => whnf
   ((try (refine Exists.intro none ?_; conv => whnf)); (with_reducible refine zaa (kki) ?_); conv => whnf)
   cases hw : witB (beatR r) with
   | false =>
    have hw2 : ((kindR (zac r) r.id).toList == (ByteArray.mk #[119, 105, 116]).toList) = false := hw
    have hno : nowO (beatR r) = [] := by unfold nowO; rw [hw]; rfl
    rw [hno, List.append_nil]
    (first | refine tYes ?_ | refine tNo ?_)
    conv => whnf
    (refine zaf [] [(2048, false, 16, ot)] ?_; (conv => whnf); (refine And.intro (And.intro (by with_unfolding_all rfl) (by intro q hq; rw [List.mem_singleton.1 hq]; first | rfl | exact congrArg (fun x => some (some x)) (zav (b := false) (by kernel_rfl) (by first | (rw [List.take_of_length_le (Nat.le_refl _)]; done) | (rw [List.take_of_length_le (Nat.le_refl _)]; rfl))))) ?_; refine And.intro ?_ (And.intro ?_ ?_) <;> (conv => whnf) <;> (repeat' (first | exact True.intro | (with_reducible exact rfl) | exact (rfl : List.replicate 0 PV.bad = []) | ((with_reducible refine And.intro ?_ ?_) <;> (first | (with_reducible exact zah _ rfl) | exact zbq (b := false) (List.Mem.head _) rfl | exact zer rfl rfl | exact zbg rfl rfl rfl | (refine zbg rfl rfl ?_) | (refine zcr (congrArg (Value.int .i64) ?_)) | (refine zcr (congrArg Value.bool ?_)) | exact zfa rfl | ((refine zai ?_); conv => whnf) | ((refine zag ?_); conv => whnf) | ((refine zae ?_); conv => whnf) | (conv => whnf)))))))
    all_goals first | rfl | exact .inl rfl | trace_state
   | true =>
    have hw2 : ((kindR (zac r) r.id).toList == (ByteArray.mk #[119, 105, 116]).toList) = true := hw
    have hno : nowO (beatR r) = nowL (beatR r) (othN r.id (zac r).full 7) := by unfold nowO; rw [hw]; rfl
    rw [hno]
    (first | refine tYes ?_ | refine tNo ?_)
    conv => whnf
    refine tSeq ?_
    conv => whnf
    refine tFor (fun k : Nat => k ≤ 7 ∧ ∀ v ∈ othN r.id (zac r).full k, nowP (beatR r) v = false) (fun k => [(13, iv k)]) (fun _ => [(1000000, (beatR r).enc), (3, (zac r).enc), (10, (force r.hard (lastI r.hard)).1.enc)]) (fun _ => [(2048, some (false, 16, ot))]) [(2048, 2048)] (fun k => 7 - k) 0 ⟨Nat.zero_le _, fun v hv => absurd hv (List.not_mem_nil)⟩ ?_ ?_
    ·conv => whnf
     exact wkD
    rintro k ⟨hk, hal⟩
    rcases (by omega : k = 0 ∨ k = 1 ∨ k = 2 ∨ k = 3 ∨ k = 4 ∨ k = 5 ∨ k = 6 ∨ k = 7) with rfl | rfl | rfl | rfl | rfl | rfl | rfl | rfl
    ·have kh := c_Has (zac r).full 0
     have hnext : (((0 : Nat) : Int) = r.id ∨ tb (zac r).full 0 = false ∨ nowP (beatR r) ((0 : Nat) : Int) = false) → ∀ v ∈ othN r.id (zac r).full 1, nowP (beatR r) v = false := fun h => zih hal h
     have hdef : nowP (beatR r) ((0 : Nat) : Int) = (decide ((beatR r).mtch.a0 = lastI r.hard) && decide ((beatR r).silent.a0 < 6)) := rfl
     conv => whnf
     cases ht : tb (zac r).full 0 with
     | false =>
      rw [show hasB (zac r).full 0 = false from (zcf (by decide)).trans ((zbs (by decide) _).trans ht)] at kh
      have hp := hnext (.inr (.inl ht))
      ((try (refine Exists.intro none ?_; conv => whnf)); (with_reducible refine zaa (kh) ?_); conv => whnf)
      refine ⟨1, [(2048, 2048)], ⟨⟨by omega, hp⟩, by omega⟩, ?_⟩
      conv => whnf
      exact wkD
     | true =>
      rw [show hasB (zac r).full 0 = true from (zcf (by decide)).trans ((zbs (by decide) _).trans ht)] at kh
      have hne : ((0 : Nat) : Int) ≠ r.id := zen (x := beatR r) hw (by decide) ht
      ((try (refine Exists.intro none ?_; conv => whnf)); (with_reducible refine zaa (kh) ?_); conv => whnf)
      refine ⟨⟨by decide, by decide⟩, ?_⟩
      conv => whnf
      (refine tSp (fun h => ?_) (fun h => ?_) <;> conv => whnf)
      ·have h1 : (beatR r).mtch.a0 = lastI r.hard := h
       clear h
       refine ⟨⟨by decide, by decide⟩, ?_⟩
       conv => whnf
       (refine tSp (fun h => ?_) (fun h => ?_) <;> conv => whnf)
       ·have h2 : (beatR r).silent.a0 < 6 := h
        clear h
        rw [zf0 (by decide) hne ht hal (by rw [hdef, decide_eq_true h1, decide_eq_true h2]; rfl)]
        (refine And.intro rfl ?_; (conv => whnf); refine And.intro (And.intro (And.intro (by kernel_rfl) (And.intro (Nat.le_refl _) (And.intro (hom) (And.intro (hol) (by intro r hr; rw [List.mem_singleton.1 hr]; rfl))))) (And.intro (by decide) rfl)) ?_; conv => whnf)
        (refine zaf [] [(177 * 16, false, 16, ot ++ [nowM (beatR r) ((0 : Nat) : Int)])] ?_; (conv => whnf); (refine And.intro (And.intro (by with_unfolding_all rfl) (by intro q hq; rw [List.mem_singleton.1 hq]; first | rfl | exact congrArg (fun x => some (some x)) (zav (b := false) (by kernel_rfl) (by first | (rw [List.take_of_length_le (Nat.le_refl _)]; done) | (rw [List.take_of_length_le (Nat.le_refl _)]; rfl))))) ?_; refine And.intro ?_ (And.intro ?_ ?_) <;> (conv => whnf) <;> (repeat' (first | exact True.intro | (with_reducible exact rfl) | exact (rfl : List.replicate 0 PV.bad = []) | ((with_reducible refine And.intro ?_ ?_) <;> (first | (with_reducible exact zah _ rfl) | exact zbq (b := false) (List.Mem.head _) List.length_append.symm | exact zer rfl rfl | exact zbg rfl rfl rfl | (refine zbg rfl rfl ?_) | (refine zcr (congrArg (Value.int .i64) ?_)) | (refine zcr (congrArg Value.bool ?_)) | exact zfa rfl | ((refine zai ?_); conv => whnf) | ((refine zag ?_); conv => whnf) | ((refine zae ?_); conv => whnf) | (conv => whnf)))))))
        all_goals first | rfl | exact .inl rfl | trace_state
       ·have h2 : ¬ (beatR r).silent.a0 < 6 := h
        clear h
        have hp := hnext (.inr (.inr (by rw [hdef, decide_eq_false h2, Bool.and_false])))
        refine ⟨1, [(2048, 2048)], ⟨⟨by omega, hp⟩, by omega⟩, ?_⟩
        conv => whnf
        exact wkD
      ·have h1 : ¬ (beatR r).mtch.a0 = lastI r.hard := h
       clear h
       have hp := hnext (.inr (.inr (by rw [hdef, decide_eq_false h1, Bool.false_and])))
       refine ⟨1, [(2048, 2048)], ⟨⟨by omega, hp⟩, by omega⟩, ?_⟩
       conv => whnf
       exact wkD
    ·have kh := c_Has (zac r).full 1
     have hnext : (((1 : Nat) : Int) = r.id ∨ tb (zac r).full 1 = false ∨ nowP (beatR r) ((1 : Nat) : Int) = false) → ∀ v ∈ othN r.id (zac r).full 2, nowP (beatR r) v = false := fun h => zih hal h
     have hdef : nowP (beatR r) ((1 : Nat) : Int) = (decide ((beatR r).mtch.a1 = lastI r.hard) && decide ((beatR r).silent.a1 < 6)) := rfl
     conv => whnf
     cases ht : tb (zac r).full 1 with
     | false =>
      rw [show hasB (zac r).full 1 = false from (zcf (by decide)).trans ((zbs (by decide) _).trans ht)] at kh
      have hp := hnext (.inr (.inl ht))
      ((try (refine Exists.intro none ?_; conv => whnf)); (with_reducible refine zaa (kh) ?_); conv => whnf)
      refine ⟨2, [(2048, 2048)], ⟨⟨by omega, hp⟩, by omega⟩, ?_⟩
      conv => whnf
      exact wkD
     | true =>
      rw [show hasB (zac r).full 1 = true from (zcf (by decide)).trans ((zbs (by decide) _).trans ht)] at kh
      have hne : ((1 : Nat) : Int) ≠ r.id := zen (x := beatR r) hw (by decide) ht
      ((try (refine Exists.intro none ?_; conv => whnf)); (with_reducible refine zaa (kh) ?_); conv => whnf)
      refine ⟨⟨by decide, by decide⟩, ?_⟩
      conv => whnf
      (refine tSp (fun h => ?_) (fun h => ?_) <;> conv => whnf)
      ·have h1 : (beatR r).mtch.a1 = lastI r.hard := h
       clear h
       refine ⟨⟨by decide, by decide⟩, ?_⟩
       conv => whnf
       (refine tSp (fun h => ?_) (fun h => ?_) <;> conv => whnf)
       ·have h2 : (beatR r).silent.a1 < 6 := h
        clear h
        rw [zf0 (by decide) hne ht hal (by rw [hdef, decide_eq_true h1, decide_eq_true h2]; rfl)]
        (refine And.intro rfl ?_; (conv => whnf); refine And.intro (And.intro (And.intro (by kernel_rfl) (And.intro (Nat.le_refl _) (And.intro (hom) (And.intro (hol) (by intro r hr; rw [List.mem_singleton.1 hr]; rfl))))) (And.intro (by decide) rfl)) ?_; conv => whnf)
        (refine zaf [] [(177 * 16, false, 16, ot ++ [nowM (beatR r) ((1 : Nat) : Int)])] ?_; (conv => whnf); (refine And.intro (And.intro (by with_unfolding_all rfl) (by intro q hq; rw [List.mem_singleton.1 hq]; first | rfl | exact congrArg (fun x => some (some x)) (zav (b := false) (by kernel_rfl) (by first | (rw [List.take_of_length_le (Nat.le_refl _)]; done) | (rw [List.take_of_length_le (Nat.le_refl _)]; rfl))))) ?_; refine And.intro ?_ (And.intro ?_ ?_) <;> (conv => whnf) <;> (repeat' (first | exact True.intro | (with_reducible exact rfl) | exact (rfl : List.replicate 0 PV.bad = []) | ((with_reducible refine And.intro ?_ ?_) <;> (first | (with_reducible exact zah _ rfl) | exact zbq (b := false) (List.Mem.head _) List.length_append.symm | exact zer rfl rfl | exact zbg rfl rfl rfl | (refine zbg rfl rfl ?_) | (refine zcr (congrArg (Value.int .i64) ?_)) | (refine zcr (congrArg Value.bool ?_)) | exact zfa rfl | ((refine zai ?_); conv => whnf) | ((refine zag ?_); conv => whnf) | ((refine zae ?_); conv => whnf) | (conv => whnf)))))))
        all_goals first | rfl | exact .inl rfl | trace_state
       ·have h2 : ¬ (beatR r).silent.a1 < 6 := h
        clear h
        have hp := hnext (.inr (.inr (by rw [hdef, decide_eq_false h2, Bool.and_false])))
        refine ⟨2, [(2048, 2048)], ⟨⟨by omega, hp⟩, by omega⟩, ?_⟩
        conv => whnf
        exact wkD
      ·have h1 : ¬ (beatR r).mtch.a1 = lastI r.hard := h
       clear h
       have hp := hnext (.inr (.inr (by rw [hdef, decide_eq_false h1, Bool.false_and])))
       refine ⟨2, [(2048, 2048)], ⟨⟨by omega, hp⟩, by omega⟩, ?_⟩
       conv => whnf
       exact wkD
    ·have kh := c_Has (zac r).full 2
     have hnext : (((2 : Nat) : Int) = r.id ∨ tb (zac r).full 2 = false ∨ nowP (beatR r) ((2 : Nat) : Int) = false) → ∀ v ∈ othN r.id (zac r).full 3, nowP (beatR r) v = false := fun h => zih hal h
     have hdef : nowP (beatR r) ((2 : Nat) : Int) = (decide ((beatR r).mtch.a2 = lastI r.hard) && decide ((beatR r).silent.a2 < 6)) := rfl
     conv => whnf
     cases ht : tb (zac r).full 2 with
     | false =>
      rw [show hasB (zac r).full 2 = false from (zcf (by decide)).trans ((zbs (by decide) _).trans ht)] at kh
      have hp := hnext (.inr (.inl ht))
      ((try (refine Exists.intro none ?_; conv => whnf)); (with_reducible refine zaa (kh) ?_); conv => whnf)
      refine ⟨3, [(2048, 2048)], ⟨⟨by omega, hp⟩, by omega⟩, ?_⟩
      conv => whnf
      exact wkD
     | true =>
      rw [show hasB (zac r).full 2 = true from (zcf (by decide)).trans ((zbs (by decide) _).trans ht)] at kh
      have hne : ((2 : Nat) : Int) ≠ r.id := zen (x := beatR r) hw (by decide) ht
      ((try (refine Exists.intro none ?_; conv => whnf)); (with_reducible refine zaa (kh) ?_); conv => whnf)
      refine ⟨⟨by decide, by decide⟩, ?_⟩
      conv => whnf
      (refine tSp (fun h => ?_) (fun h => ?_) <;> conv => whnf)
      ·have h1 : (beatR r).mtch.a2 = lastI r.hard := h
       clear h
       refine ⟨⟨by decide, by decide⟩, ?_⟩
       conv => whnf
       (refine tSp (fun h => ?_) (fun h => ?_) <;> conv => whnf)
       ·have h2 : (beatR r).silent.a2 < 6 := h
        clear h
        rw [zf0 (by decide) hne ht hal (by rw [hdef, decide_eq_true h1, decide_eq_true h2]; rfl)]
        (refine And.intro rfl ?_; (conv => whnf); refine And.intro (And.intro (And.intro (by kernel_rfl) (And.intro (Nat.le_refl _) (And.intro (hom) (And.intro (hol) (by intro r hr; rw [List.mem_singleton.1 hr]; rfl))))) (And.intro (by decide) rfl)) ?_; conv => whnf)
        (refine zaf [] [(177 * 16, false, 16, ot ++ [nowM (beatR r) ((2 : Nat) : Int)])] ?_; (conv => whnf); (refine And.intro (And.intro (by with_unfolding_all rfl) (by intro q hq; rw [List.mem_singleton.1 hq]; first | rfl | exact congrArg (fun x => some (some x)) (zav (b := false) (by kernel_rfl) (by first | (rw [List.take_of_length_le (Nat.le_refl _)]; done) | (rw [List.take_of_length_le (Nat.le_refl _)]; rfl))))) ?_; refine And.intro ?_ (And.intro ?_ ?_) <;> (conv => whnf) <;> (repeat' (first | exact True.intro | (with_reducible exact rfl) | exact (rfl : List.replicate 0 PV.bad = []) | ((with_reducible refine And.intro ?_ ?_) <;> (first | (with_reducible exact zah _ rfl) | exact zbq (b := false) (List.Mem.head _) List.length_append.symm | exact zer rfl rfl | exact zbg rfl rfl rfl | (refine zbg rfl rfl ?_) | (refine zcr (congrArg (Value.int .i64) ?_)) | (refine zcr (congrArg Value.bool ?_)) | exact zfa rfl | ((refine zai ?_); conv => whnf) | ((refine zag ?_); conv => whnf) | ((refine zae ?_); conv => whnf) | (conv => whnf)))))))
        all_goals first | rfl | exact .inl rfl | trace_state
       ·have h2 : ¬ (beatR r).silent.a2 < 6 := h
        clear h
        have hp := hnext (.inr (.inr (by rw [hdef, decide_eq_false h2, Bool.and_false])))
        refine ⟨3, [(2048, 2048)], ⟨⟨by omega, hp⟩, by omega⟩, ?_⟩
        conv => whnf
        exact wkD
      ·have h1 : ¬ (beatR r).mtch.a2 = lastI r.hard := h
       clear h
       have hp := hnext (.inr (.inr (by rw [hdef, decide_eq_false h1, Bool.false_and])))
       refine ⟨3, [(2048, 2048)], ⟨⟨by omega, hp⟩, by omega⟩, ?_⟩
       conv => whnf
       exact wkD
    ·have kh := c_Has (zac r).full 3
     have hnext : (((3 : Nat) : Int) = r.id ∨ tb (zac r).full 3 = false ∨ nowP (beatR r) ((3 : Nat) : Int) = false) → ∀ v ∈ othN r.id (zac r).full 4, nowP (beatR r) v = false := fun h => zih hal h
     have hdef : nowP (beatR r) ((3 : Nat) : Int) = (decide ((beatR r).mtch.a3 = lastI r.hard) && decide ((beatR r).silent.a3 < 6)) := rfl
     conv => whnf
     cases ht : tb (zac r).full 3 with
     | false =>
      rw [show hasB (zac r).full 3 = false from (zcf (by decide)).trans ((zbs (by decide) _).trans ht)] at kh
      have hp := hnext (.inr (.inl ht))
      ((try (refine Exists.intro none ?_; conv => whnf)); (with_reducible refine zaa (kh) ?_); conv => whnf)
      refine ⟨4, [(2048, 2048)], ⟨⟨by omega, hp⟩, by omega⟩, ?_⟩
      conv => whnf
      exact wkD
     | true =>
      rw [show hasB (zac r).full 3 = true from (zcf (by decide)).trans ((zbs (by decide) _).trans ht)] at kh
      have hne : ((3 : Nat) : Int) ≠ r.id := zen (x := beatR r) hw (by decide) ht
      ((try (refine Exists.intro none ?_; conv => whnf)); (with_reducible refine zaa (kh) ?_); conv => whnf)
      refine ⟨⟨by decide, by decide⟩, ?_⟩
      conv => whnf
      (refine tSp (fun h => ?_) (fun h => ?_) <;> conv => whnf)
      ·have h1 : (beatR r).mtch.a3 = lastI r.hard := h
       clear h
       refine ⟨⟨by decide, by decide⟩, ?_⟩
       conv => whnf
       (refine tSp (fun h => ?_) (fun h => ?_) <;> conv => whnf)
       ·have h2 : (beatR r).silent.a3 < 6 := h
        clear h
        rw [zf0 (by decide) hne ht hal (by rw [hdef, decide_eq_true h1, decide_eq_true h2]; rfl)]
        (refine And.intro rfl ?_; (conv => whnf); refine And.intro (And.intro (And.intro (by kernel_rfl) (And.intro (Nat.le_refl _) (And.intro (hom) (And.intro (hol) (by intro r hr; rw [List.mem_singleton.1 hr]; rfl))))) (And.intro (by decide) rfl)) ?_; conv => whnf)
        (refine zaf [] [(177 * 16, false, 16, ot ++ [nowM (beatR r) ((3 : Nat) : Int)])] ?_; (conv => whnf); (refine And.intro (And.intro (by with_unfolding_all rfl) (by intro q hq; rw [List.mem_singleton.1 hq]; first | rfl | exact congrArg (fun x => some (some x)) (zav (b := false) (by kernel_rfl) (by first | (rw [List.take_of_length_le (Nat.le_refl _)]; done) | (rw [List.take_of_length_le (Nat.le_refl _)]; rfl))))) ?_; refine And.intro ?_ (And.intro ?_ ?_) <;> (conv => whnf) <;> (repeat' (first | exact True.intro | (with_reducible exact rfl) | exact (rfl : List.replicate 0 PV.bad = []) | ((with_reducible refine And.intro ?_ ?_) <;> (first | (with_reducible exact zah _ rfl) | exact zbq (b := false) (List.Mem.head _) List.length_append.symm | exact zer rfl rfl | exact zbg rfl rfl rfl | (refine zbg rfl rfl ?_) | (refine zcr (congrArg (Value.int .i64) ?_)) | (refine zcr (congrArg Value.bool ?_)) | exact zfa rfl | ((refine zai ?_); conv => whnf) | ((refine zag ?_); conv => whnf) | ((refine zae ?_); conv => whnf) | (conv => whnf)))))))
        all_goals first | rfl | exact .inl rfl | trace_state
       ·have h2 : ¬ (beatR r).silent.a3 < 6 := h
        clear h
        have hp := hnext (.inr (.inr (by rw [hdef, decide_eq_false h2, Bool.and_false])))
        refine ⟨4, [(2048, 2048)], ⟨⟨by omega, hp⟩, by omega⟩, ?_⟩
        conv => whnf
        exact wkD
      ·have h1 : ¬ (beatR r).mtch.a3 = lastI r.hard := h
       clear h
       have hp := hnext (.inr (.inr (by rw [hdef, decide_eq_false h1, Bool.false_and])))
       refine ⟨4, [(2048, 2048)], ⟨⟨by omega, hp⟩, by omega⟩, ?_⟩
       conv => whnf
       exact wkD
    ·have kh := c_Has (zac r).full 4
     have hnext : (((4 : Nat) : Int) = r.id ∨ tb (zac r).full 4 = false ∨ nowP (beatR r) ((4 : Nat) : Int) = false) → ∀ v ∈ othN r.id (zac r).full 5, nowP (beatR r) v = false := fun h => zih hal h
     have hdef : nowP (beatR r) ((4 : Nat) : Int) = (decide ((beatR r).mtch.a4 = lastI r.hard) && decide ((beatR r).silent.a4 < 6)) := rfl
     conv => whnf
     cases ht : tb (zac r).full 4 with
     | false =>
      rw [show hasB (zac r).full 4 = false from (zcf (by decide)).trans ((zbs (by decide) _).trans ht)] at kh
      have hp := hnext (.inr (.inl ht))
      ((try (refine Exists.intro none ?_; conv => whnf)); (with_reducible refine zaa (kh) ?_); conv => whnf)
      refine ⟨5, [(2048, 2048)], ⟨⟨by omega, hp⟩, by omega⟩, ?_⟩
      conv => whnf
      exact wkD
     | true =>
      rw [show hasB (zac r).full 4 = true from (zcf (by decide)).trans ((zbs (by decide) _).trans ht)] at kh
      have hne : ((4 : Nat) : Int) ≠ r.id := zen (x := beatR r) hw (by decide) ht
      ((try (refine Exists.intro none ?_; conv => whnf)); (with_reducible refine zaa (kh) ?_); conv => whnf)
      refine ⟨⟨by decide, by decide⟩, ?_⟩
      conv => whnf
      (refine tSp (fun h => ?_) (fun h => ?_) <;> conv => whnf)
      ·have h1 : (beatR r).mtch.a4 = lastI r.hard := h
       clear h
       refine ⟨⟨by decide, by decide⟩, ?_⟩
       conv => whnf
       (refine tSp (fun h => ?_) (fun h => ?_) <;> conv => whnf)
       ·have h2 : (beatR r).silent.a4 < 6 := h
        clear h
        rw [zf0 (by decide) hne ht hal (by rw [hdef, decide_eq_true h1, decide_eq_true h2]; rfl)]
        (refine And.intro rfl ?_; (conv => whnf); refine And.intro (And.intro (And.intro (by kernel_rfl) (And.intro (Nat.le_refl _) (And.intro (hom) (And.intro (hol) (by intro r hr; rw [List.mem_singleton.1 hr]; rfl))))) (And.intro (by decide) rfl)) ?_; conv => whnf)
        (refine zaf [] [(177 * 16, false, 16, ot ++ [nowM (beatR r) ((4 : Nat) : Int)])] ?_; (conv => whnf); (refine And.intro (And.intro (by with_unfolding_all rfl) (by intro q hq; rw [List.mem_singleton.1 hq]; first | rfl | exact congrArg (fun x => some (some x)) (zav (b := false) (by kernel_rfl) (by first | (rw [List.take_of_length_le (Nat.le_refl _)]; done) | (rw [List.take_of_length_le (Nat.le_refl _)]; rfl))))) ?_; refine And.intro ?_ (And.intro ?_ ?_) <;> (conv => whnf) <;> (repeat' (first | exact True.intro | (with_reducible exact rfl) | exact (rfl : List.replicate 0 PV.bad = []) | ((with_reducible refine And.intro ?_ ?_) <;> (first | (with_reducible exact zah _ rfl) | exact zbq (b := false) (List.Mem.head _) List.length_append.symm | exact zer rfl rfl | exact zbg rfl rfl rfl | (refine zbg rfl rfl ?_) | (refine zcr (congrArg (Value.int .i64) ?_)) | (refine zcr (congrArg Value.bool ?_)) | exact zfa rfl | ((refine zai ?_); conv => whnf) | ((refine zag ?_); conv => whnf) | ((refine zae ?_); conv => whnf) | (conv => whnf)))))))
        all_goals first | rfl | exact .inl rfl | trace_state
       ·have h2 : ¬ (beatR r).silent.a4 < 6 := h
        clear h
        have hp := hnext (.inr (.inr (by rw [hdef, decide_eq_false h2, Bool.and_false])))
        refine ⟨5, [(2048, 2048)], ⟨⟨by omega, hp⟩, by omega⟩, ?_⟩
        conv => whnf
        exact wkD
      ·have h1 : ¬ (beatR r).mtch.a4 = lastI r.hard := h
       clear h
       have hp := hnext (.inr (.inr (by rw [hdef, decide_eq_false h1, Bool.false_and])))
       refine ⟨5, [(2048, 2048)], ⟨⟨by omega, hp⟩, by omega⟩, ?_⟩
       conv => whnf
       exact wkD
    ·have kh := c_Has (zac r).full 5
     have hnext : (((5 : Nat) : Int) = r.id ∨ tb (zac r).full 5 = false ∨ nowP (beatR r) ((5 : Nat) : Int) = false) → ∀ v ∈ othN r.id (zac r).full 6, nowP (beatR r) v = false := fun h => zih hal h
     have hdef : nowP (beatR r) ((5 : Nat) : Int) = (decide ((beatR r).mtch.a5 = lastI r.hard) && decide ((beatR r).silent.a5 < 6)) := rfl
     conv => whnf
     cases ht : tb (zac r).full 5 with
     | false =>
      rw [show hasB (zac r).full 5 = false from (zcf (by decide)).trans ((zbs (by decide) _).trans ht)] at kh
      have hp := hnext (.inr (.inl ht))
      ((try (refine Exists.intro none ?_; conv => whnf)); (with_reducible refine zaa (kh) ?_); conv => whnf)
      refine ⟨6, [(2048, 2048)], ⟨⟨by omega, hp⟩, by omega⟩, ?_⟩
      conv => whnf
      exact wkD
     | true =>
      rw [show hasB (zac r).full 5 = true from (zcf (by decide)).trans ((zbs (by decide) _).trans ht)] at kh
      have hne : ((5 : Nat) : Int) ≠ r.id := zen (x := beatR r) hw (by decide) ht
      ((try (refine Exists.intro none ?_; conv => whnf)); (with_reducible refine zaa (kh) ?_); conv => whnf)
      refine ⟨⟨by decide, by decide⟩, ?_⟩
      conv => whnf
      (refine tSp (fun h => ?_) (fun h => ?_) <;> conv => whnf)
      ·have h1 : (beatR r).mtch.a5 = lastI r.hard := h
       clear h
       refine ⟨⟨by decide, by decide⟩, ?_⟩
       conv => whnf
       (refine tSp (fun h => ?_) (fun h => ?_) <;> conv => whnf)
       ·have h2 : (beatR r).silent.a5 < 6 := h
        clear h
        rw [zf0 (by decide) hne ht hal (by rw [hdef, decide_eq_true h1, decide_eq_true h2]; rfl)]
        (refine And.intro rfl ?_; (conv => whnf); refine And.intro (And.intro (And.intro (by kernel_rfl) (And.intro (Nat.le_refl _) (And.intro (hom) (And.intro (hol) (by intro r hr; rw [List.mem_singleton.1 hr]; rfl))))) (And.intro (by decide) rfl)) ?_; conv => whnf)
        (refine zaf [] [(177 * 16, false, 16, ot ++ [nowM (beatR r) ((5 : Nat) : Int)])] ?_; (conv => whnf); (refine And.intro (And.intro (by with_unfolding_all rfl) (by intro q hq; rw [List.mem_singleton.1 hq]; first | rfl | exact congrArg (fun x => some (some x)) (zav (b := false) (by kernel_rfl) (by first | (rw [List.take_of_length_le (Nat.le_refl _)]; done) | (rw [List.take_of_length_le (Nat.le_refl _)]; rfl))))) ?_; refine And.intro ?_ (And.intro ?_ ?_) <;> (conv => whnf) <;> (repeat' (first | exact True.intro | (with_reducible exact rfl) | exact (rfl : List.replicate 0 PV.bad = []) | ((with_reducible refine And.intro ?_ ?_) <;> (first | (with_reducible exact zah _ rfl) | exact zbq (b := false) (List.Mem.head _) List.length_append.symm | exact zer rfl rfl | exact zbg rfl rfl rfl | (refine zbg rfl rfl ?_) | (refine zcr (congrArg (Value.int .i64) ?_)) | (refine zcr (congrArg Value.bool ?_)) | exact zfa rfl | ((refine zai ?_); conv => whnf) | ((refine zag ?_); conv => whnf) | ((refine zae ?_); conv => whnf) | (conv => whnf)))))))
        all_goals first | rfl | exact .inl rfl | trace_state
       ·have h2 : ¬ (beatR r).silent.a5 < 6 := h
        clear h
        have hp := hnext (.inr (.inr (by rw [hdef, decide_eq_false h2, Bool.and_false])))
        refine ⟨6, [(2048, 2048)], ⟨⟨by omega, hp⟩, by omega⟩, ?_⟩
        conv => whnf
        exact wkD
      ·have h1 : ¬ (beatR r).mtch.a5 = lastI r.hard := h
       clear h
       have hp := hnext (.inr (.inr (by rw [hdef, decide_eq_false h1, Bool.false_and])))
       refine ⟨6, [(2048, 2048)], ⟨⟨by omega, hp⟩, by omega⟩, ?_⟩
       conv => whnf
       exact wkD
    ·have kh := c_Has (zac r).full 6
     have hnext : (((6 : Nat) : Int) = r.id ∨ tb (zac r).full 6 = false ∨ nowP (beatR r) ((6 : Nat) : Int) = false) → ∀ v ∈ othN r.id (zac r).full 7, nowP (beatR r) v = false := fun h => zih hal h
     have hdef : nowP (beatR r) ((6 : Nat) : Int) = (decide ((beatR r).mtch.a6 = lastI r.hard) && decide ((beatR r).silent.a6 < 6)) := rfl
     conv => whnf
     cases ht : tb (zac r).full 6 with
     | false =>
      rw [show hasB (zac r).full 6 = false from (zcf (by decide)).trans ((zbs (by decide) _).trans ht)] at kh
      have hp := hnext (.inr (.inl ht))
      ((try (refine Exists.intro none ?_; conv => whnf)); (with_reducible refine zaa (kh) ?_); conv => whnf)
      refine ⟨7, [(2048, 2048)], ⟨⟨by omega, hp⟩, by omega⟩, ?_⟩
      conv => whnf
      exact wkD
     | true =>
      rw [show hasB (zac r).full 6 = true from (zcf (by decide)).trans ((zbs (by decide) _).trans ht)] at kh
      have hne : ((6 : Nat) : Int) ≠ r.id := zen (x := beatR r) hw (by decide) ht
      ((try (refine Exists.intro none ?_; conv => whnf)); (with_reducible refine zaa (kh) ?_); conv => whnf)
      refine ⟨⟨by decide, by decide⟩, ?_⟩
      conv => whnf
      (refine tSp (fun h => ?_) (fun h => ?_) <;> conv => whnf)
      ·have h1 : (beatR r).mtch.a6 = lastI r.hard := h
       clear h
       refine ⟨⟨by decide, by decide⟩, ?_⟩
       conv => whnf
       (refine tSp (fun h => ?_) (fun h => ?_) <;> conv => whnf)
       ·have h2 : (beatR r).silent.a6 < 6 := h
        clear h
        rw [zf0 (by decide) hne ht hal (by rw [hdef, decide_eq_true h1, decide_eq_true h2]; rfl)]
        (refine And.intro rfl ?_; (conv => whnf); refine And.intro (And.intro (And.intro (by kernel_rfl) (And.intro (Nat.le_refl _) (And.intro (hom) (And.intro (hol) (by intro r hr; rw [List.mem_singleton.1 hr]; rfl))))) (And.intro (by decide) rfl)) ?_; conv => whnf)
        (refine zaf [] [(177 * 16, false, 16, ot ++ [nowM (beatR r) ((6 : Nat) : Int)])] ?_; (conv => whnf); (refine And.intro (And.intro (by with_unfolding_all rfl) (by intro q hq; rw [List.mem_singleton.1 hq]; first | rfl | exact congrArg (fun x => some (some x)) (zav (b := false) (by kernel_rfl) (by first | (rw [List.take_of_length_le (Nat.le_refl _)]; done) | (rw [List.take_of_length_le (Nat.le_refl _)]; rfl))))) ?_; refine And.intro ?_ (And.intro ?_ ?_) <;> (conv => whnf) <;> (repeat' (first | exact True.intro | (with_reducible exact rfl) | exact (rfl : List.replicate 0 PV.bad = []) | ((with_reducible refine And.intro ?_ ?_) <;> (first | (with_reducible exact zah _ rfl) | exact zbq (b := false) (List.Mem.head _) List.length_append.symm | exact zer rfl rfl | exact zbg rfl rfl rfl | (refine zbg rfl rfl ?_) | (refine zcr (congrArg (Value.int .i64) ?_)) | (refine zcr (congrArg Value.bool ?_)) | exact zfa rfl | ((refine zai ?_); conv => whnf) | ((refine zag ?_); conv => whnf) | ((refine zae ?_); conv => whnf) | (conv => whnf)))))))
        all_goals first | rfl | exact .inl rfl | trace_state
       ·have h2 : ¬ (beatR r).silent.a6 < 6 := h
        clear h
        have hp := hnext (.inr (.inr (by rw [hdef, decide_eq_false h2, Bool.and_false])))
        refine ⟨7, [(2048, 2048)], ⟨⟨by omega, hp⟩, by omega⟩, ?_⟩
        conv => whnf
        exact wkD
      ·have h1 : ¬ (beatR r).mtch.a6 = lastI r.hard := h
       clear h
       have hp := hnext (.inr (.inr (by rw [hdef, decide_eq_false h1, Bool.false_and])))
       refine ⟨7, [(2048, 2048)], ⟨⟨by omega, hp⟩, by omega⟩, ?_⟩
       conv => whnf
       exact wkD
    ·rw [now_none hal, List.append_nil]
     conv => whnf
     refine pwS ?_
     conv => whnf
     (refine zaf [] [(2048, false, 16, ot)] ?_; (conv => whnf); (refine And.intro (And.intro (by with_unfolding_all rfl) (by intro q hq; rw [List.mem_singleton.1 hq]; first | rfl | exact congrArg (fun x => some (some x)) (zav (b := false) (by kernel_rfl) (by first | (rw [List.take_of_length_le (Nat.le_refl _)]; done) | (rw [List.take_of_length_le (Nat.le_refl _)]; rfl))))) ?_; refine And.intro ?_ (And.intro ?_ ?_) <;> (conv => whnf) <;> (repeat' (first | exact True.intro | (with_reducible exact rfl) | exact (rfl : List.replicate 0 PV.bad = []) | ((with_reducible refine And.intro ?_ ?_) <;> (first | (with_reducible exact zah _ rfl) | exact zbq (b := false) (List.Mem.head _) rfl | exact zer rfl rfl | exact zbg rfl rfl rfl | (refine zbg rfl rfl ?_) | (refine zcr (congrArg (Value.int .i64) ?_)) | (refine zcr (congrArg Value.bool ?_)) | exact zfa rfl | ((refine zai ?_); conv => whnf) | ((refine zag ?_); conv => whnf) | ((refine zae ?_); conv => whnf) | (conv => whnf)))))))
     all_goals first | rfl | exact .inl rfl | trace_state
end Go.Proofs
