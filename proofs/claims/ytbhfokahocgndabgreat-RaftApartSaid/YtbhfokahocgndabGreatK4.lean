import Derived.Test.YtbhfokahocgndabGreatI1
import Derived.Test.YtbhfokahocgndabGreatC24
import Derived.Test.YtbhfokahocgndabGreatC1
import Derived.Test.YtbhfokahocgndabGreatH2
import Derived.Test.YtbhfokahocgndabGreatC5
import Derived.Test.YtbhfokahocgndabGreatPvW
import Derived.Test.YtbhfokahocgndabGreatC54
import Derived.Test.YtbhfokahocgndabGreatC13
import Derived.Test.YtbhfokahocgndabGreatC47
/- Contracts of functions: a call is put into the log. -/
set_option linter.unusedSimpArgs false
set_option linter.unusedVariables false
namespace Go.Proofs
open Go.Pv
set_option maxRecDepth 100000
noncomputable def zeq (r : Rft) : Int := if r.role = 3 then (if bitB (zac r).full r.id = true then 0 else 11) else 11
theorem zj8 (c : Conf) (i : Int) : kindR c i = kind c i := by
 rw [kind_eq]
 cases h : zan i 0 6 with
 | false =>
  unfold kindR
  rw [h, if_neg (by decide)]
  simp only [zlv h]; rfl
 | true =>
  have hi : 0 ≤ i ∧ i ≤ 6 := by simpa [zan] using h
  obtain ⟨n, rfl⟩ : ∃ n : Nat, i = n := ⟨i.toNat, by omega⟩
  have hn : n < 7 := by omega
  rw [kindR_eq c hn]
  have e : ∀ b, bitB b n = tb b n := fun b => by rw [← zcf h, zge b n (by omega)]
  simp only [e]
theorem c_leads (r : Rft) (hm : r.hard.log.length ≤ maxLen) : Ctr Tryz.prog 138 [.ag r.enc] (iv (zeq r)) [] := by
 have kc := zd9 r hm
 have kk := c_Kind0 (zac r) r.id
 unfold zeq
 refine sBody Tryz.func138 ?_; conv => whnf
 (refine tSp (fun h => ?_) (fun h => ?_) <;> conv => whnf)
 ·have h : ¬ r.role = 3 := h
  rw [if_neg h]
  exact zab rfl rfl
 ·have h : r.role = 3 := by first | exact h | exact Classical.byContradiction h
  rw [if_pos h]
  ((try (refine Exists.intro none ?_; conv => whnf)); (with_reducible refine zaa (kc) ?_); conv => whnf)
  ((try (refine Exists.intro none ?_; conv => whnf)); (with_reducible refine zaa (kk) ?_); conv => whnf)
  have hk : ((kindR (zac r) r.id).toList == (ByteArray.mk #[102, 117, 108, 108]).toList) = bitB (zac r).full r.id := by rw [zj8]; exact zh5 _ _
  (refine tSp (fun h => ?_) (fun h => ?_) <;> conv => whnf)
  ·have h : ((kindR (zac r) r.id).toList == (ByteArray.mk #[102, 117, 108, 108]).toList) = false := h
   rw [hk] at h
   rw [if_neg (by intro e; rw [e] at h; cases h)]
   exact zab rfl rfl
  ·have h : ((kindR (zac r) r.id).toList == (ByteArray.mk #[102, 117, 108, 108]).toList) = true := h
   rw [hk] at h
   rw [if_pos h]
   exact zab rfl rfl
abbrev ec (r : Rft) (c : VCall) : Ent := ⟨r.hard.term, 1, c, cz⟩
noncomputable def propE (r : Rft) (c : VCall) : Int := if zeq r = 0 then (if callR c = 0 then (if r.hard.log.length < 64 then 0 else 5) else callR c) else 11
set_option maxHeartbeats 4000000 in
theorem c_Prop_err (r : Rft) (c : VCall) (hf : Fit r) (hr : zdv r = true) (he : ¬ propE r c = 0) : Ctr Tryz.prog 59 [.ag r.enc, .ag c.enc] (.tu [.ag rzv, iv 0, iv (propE r c)]) [] := by
 have hl0 := hf.log
 have ko := c_of r hf.snap (by omega) (by have := hf.reads; omega) hr
 have kl := c_leads r (zam (by omega))
 have ks := zhs c
 unfold propE at he ⊢
 by_cases h1 : zeq r = 0
 ·rw [if_pos h1] at he ⊢
  rw [h1] at kl
  by_cases h2 : callR c = 0
  ·rw [if_pos h2] at he ⊢
   rw [h2] at ks
   by_cases h3 : r.hard.log.length < 64
   ·rw [if_pos h3] at he; exact absurd rfl he
   ·rw [if_neg h3]
    refine sBody Tryz.func59 ?_; conv => whnf
    ((refine Exists.intro (some ([(28, 500)], [], [(0, 600), (1, 601), (2, 602), (3, 603)])) ?_); (conv => whnf); first | ((with_reducible refine zao (ko) ?_); conv => whnf))
    ((try (refine Exists.intro none ?_; conv => whnf)); (with_reducible refine zaa (kl) ?_); conv => whnf)
    ((try (refine Exists.intro none ?_; conv => whnf)); (with_reducible refine zaa (ks) ?_); conv => whnf)
    (refine tSp (fun h => ?_) (fun h => ?_) <;> conv => whnf)
    ·exact zab rfl rfl
    ·simp only [List.length_map] at h
     omega
  ·rw [if_neg h2]
   generalize callR c = e at *
   refine sBody Tryz.func59 ?_; conv => whnf
   ((refine Exists.intro (some ([(28, 500)], [], [(0, 600), (1, 601), (2, 602), (3, 603)])) ?_); (conv => whnf); first | ((with_reducible refine zao (ko) ?_); conv => whnf))
   ((try (refine Exists.intro none ?_; conv => whnf)); (with_reducible refine zaa (kl) ?_); conv => whnf)
   ((try (refine Exists.intro none ?_; conv => whnf)); (with_reducible refine zaa (ks) ?_); conv => whnf)
   repeat' (refine tSp (fun h => ?_) (fun h => ?_) <;> conv => whnf)
   all_goals first | exact zab rfl rfl | (exact absurd (by first | exact h | (simpa using h)) h2) | omega | trace_state
 ·rw [if_neg h1]
  have h1' : zeq r = 11 := by unfold zeq at h1 ⊢; split <;> (try split) <;> simp_all
  rw [h1'] at kl
  refine sBody Tryz.func59 ?_; conv => whnf
  ((refine Exists.intro (some ([(28, 500)], [], [(0, 600), (1, 601), (2, 602), (3, 603)])) ?_); (conv => whnf); first | ((with_reducible refine zao (ko) ?_); conv => whnf))
  ((try (refine Exists.intro none ?_; conv => whnf)); (with_reducible refine zaa (kl) ?_); conv => whnf)
  exact zab rfl rfl
set_option maxHeartbeats 4000000 in
theorem c_Prop_ok (r : Rft) (c : VCall) (hf : Fit r) (hr : zdv r = true) (he : propE r c = 0) : Ctr Tryz.prog 59 [.ag r.enc, .ag c.enc] (.tu [.ag (addR r (ec r c)).enc, iv (lastI (logR r (ec r c))), iv 0]) [] := by
 have hl0 := hf.log
 have ko := c_of r hf.snap (by omega) (by have := hf.reads; omega) hr
 have kl := c_leads r (zam (by omega))
 have ks := zhs c
 have ka := c_add r hf.id (by omega) hf.base.1 hf.base.2 [] (ec r c)
 unfold propE at he
 have h1 : zeq r = 0 := by
  apply Classical.byContradiction; intro h; rw [if_neg h] at he; omega
 rw [if_pos h1] at he
 have h2 : callR c = 0 := by
  apply Classical.byContradiction; intro h; rw [if_neg h] at he; omega
 rw [if_pos h2] at he
 have h3 : r.hard.log.length < 64 := by
  apply Classical.byContradiction; intro h; rw [if_neg h] at he; omega
 rw [h1] at kl
 rw [h2] at ks
 generalize hx : addR r (ec r c) = x at *
 refine sBody Tryz.func59 ?_; conv => whnf
 ((refine Exists.intro (some ([(28, 500)], [], [(0, 600), (1, 601), (2, 602), (3, 603)])) ?_); (conv => whnf); first | ((with_reducible refine zao (ko) ?_); conv => whnf))
 ((try (refine Exists.intro none ?_; conv => whnf)); (with_reducible refine zaa (kl) ?_); conv => whnf)
 ((try (refine Exists.intro none ?_; conv => whnf)); (with_reducible refine zaa (ks) ?_); conv => whnf)
 (refine tSp (fun h => ?_) (fun h => ?_) <;> conv => whnf)
 ·simp only [List.length_map] at h
  omega
 ((refine Exists.intro (some ([(1000000, 500)], [(1000000, 600), (1000001, 601), (1000002, 602), (1000003, 603)], [(1, 4000)])) ?_); (conv => whnf); refine zau (ka) (by kernel_rfl) (by kernel_rfl) (by kernel_rfl) ?_; conv => whnf)
 refine zaq [(600, false, 1, x.hard.snap.map encB), (4000, false, 16, x.hard.log.map Ent.enc), (602, false, 13, x.reads.map Rd.enc)] ?_ (zag ⟨zae ?_, zah _ rfl, zah _ rfl, rfl⟩)
 ·intro q hq
  simp only [List.mem_cons, List.mem_nil_iff, or_false] at hq
  rcases hq with rfl | rfl | rfl <;> rfl
 conv => whnf
 repeat' (first | exact rfl | ((with_reducible refine And.intro ?_ ?_) <;> (first | (with_reducible exact zah _ rfl) | (refine zbq (b := false) (List.Mem.head _) rfl) | (refine zbq (b := false) (List.Mem.tail _ (List.Mem.head _)) rfl) | (refine zbq (b := false) (List.Mem.tail _ (List.Mem.tail _ (List.Mem.head _))) rfl) | (conv => whnf))))
theorem c_rAll (c : Conf) : Ctr Tryz.prog 154 [.ag c.enc] (iv (bor (bor (bor c.full c.wit) c.learn) c.lwit)) [] := by
 refine sBody Tryz.func154 ?_; conv => whnf
 exact zab rfl rfl
theorem c_rOwn (a : Hrd) (hm : a.log.length ≤ maxLen) (hb : 0 ≤ a.base) (hs : a.base + a.log.length < 9223372036854775808) (i : Int) (hi : isI i) : Ctr Tryz.prog 20 [.ag a.enc, iv i] (bv (fits a i a.term)) [] := by
 have kt := zk5 a hm hb hs i hi
 refine sBody Tryz.func20 ?_; conv => whnf
 (refine tSp (fun h => ?_) (fun h => ?_) <;> conv => whnf)
 ·((try (refine Exists.intro none ?_; conv => whnf)); (with_reducible refine zaa (kt) ?_); conv => whnf)
  exact zab rfl (by simp [fits, h])
 ·exact zab rfl (by simp [fits, h])
theorem zlp {x : Int} {k : Nat} (hk : k < 62) (hx : 0 ≤ x ∧ x < ((2 ^ k : Nat) : Int)) : bor x (shl 1 k) = x + ((2 ^ k : Nat) : Int) := by
 obtain ⟨n, rfl⟩ : ∃ n : Nat, x = n := ⟨x.toNat, by omega⟩
 have hn : n < 2 ^ k := by omega
 have h2 : 2 ^ k ≤ 2 ^ 61 := Nat.pow_le_pow_right (by decide) (by omega)
 have h3 : (2 : Nat) ^ 61 = 2305843009213693952 := by decide
 have e0 : 2 ^ k + n = 2 ^ k ||| n := by have := Nat.two_pow_add_eq_or_of_lt hn 1; rwa [Nat.mul_one] at this
 have e : (n : Int) + ((2 ^ k : Nat) : Int) = ((2 ^ k + n : Nat) : Int) := by omega
 rw [e]
 refine ext64 (isI_bor _ _) (by unfold isI; omega) fun i hi => ?_
 rw [tb_or, zdu k i (by omega), tb_nat n i (by omega), tb_nat (2 ^ k + n) i (by omega), e0, Nat.testBit_or, Nat.testBit_two_pow]
 exact Bool.or_comm _ _
theorem have_fit (m : Arr) (n : Int) : ∀ k : Nat, k ≤ 7 → 0 ≤ haveB m n k ∧ haveB m n k < ((2 ^ k : Nat) : Int)
 | 0, _ => by show (0 : Int) ≤ 0 ∧ (0 : Int) < ((2 ^ 0 : Nat) : Int); decide
 | k + 1, h => by
  have ih := have_fit m n k (by omega)
  have e2 : ((2 ^ (k + 1) : Nat) : Int) = 2 * ((2 ^ k : Nat) : Int) := by rw [Nat.pow_succ]; omega
  unfold haveB
  split
  ·rw [zlp (by omega) ih]; omega
  ·omega
theorem zei (m : Arr) (n : Int) {k : Nat} (hk : k < 7) (h : n ≤ m.at k) : IntKind.i64.wrap (haveB m n k + shl 1 k) = haveB m n (k + 1) := by
 have ih := have_fit m n k (by omega)
 have h2 : 2 ^ k ≤ 2 ^ 6 := Nat.pow_le_pow_right (by decide) (by omega)
 have h3 : (2 : Nat) ^ 6 = 64 := by decide
 rw [show haveB m n (k + 1) = bor (haveB m n k) (shl 1 k) from if_pos h, zlp (by omega) ih, zlf k (by omega)]
 exact zaj (by omega) (by omega)
set_option maxHeartbeats 4000000 in
theorem c_rCommit (a : Hrd) (hm : a.log.length ≤ maxLen) (hb : 0 ≤ a.base) (hs : a.base + a.log.length < 9223372036854775808) (commit : Int) (m : Arr) : Ctr Tryz.prog 161 [.ag a.enc, iv commit, .ag m.enc] (iv (zcu a commit m)) [] := by
 have hbI : isI a.base := by unfold isI; omega
 have kl := zcb a hm
 have kf := c_Force a hm (lastI a)
 refine sBody Tryz.func161 ?_; conv => whnf
 ((try (refine Exists.intro none ?_; conv => whnf)); (with_reducible refine zaa (kl) ?_); conv => whnf)
 ((try (refine Exists.intro none ?_; conv => whnf)); (with_reducible refine zaa (kf) ?_); conv => whnf)
 refine zbm mixed (by kernel_rfl) (fun f : Nat => f ≤ a.log.length + 1 ∧ down (hit a m) a.base commit f = zcu a commit m) (fun f => [(11, iv (a.base + f - 1))]) [] (fun f => f) (a.log.length + 1) ⟨Nat.le_refl _, rfl⟩ ?_ ?_
 ·conv => whnf
  (refine wkx ?_; refine ⟨?_, ?_, ?_⟩ <;> (conv => whnf) <;> repeat' first | exact wkc | (with_reducible refine And.intro ?_ ?_) <;> first | exact wks | refine wko ?_ | refine wki ?_ | refine wkb ?_ | (refine zai ?_; conv => whnf) | (refine zag ?_; conv => whnf) | (refine zae ?_; conv => whnf) | conv => whnf)
  rw [lastI_eq hb hs]; omega
 rintro f ⟨hf, hd⟩
 generalize hn : a.base + (f : Int) - 1 = n
 conv => whnf
 (refine tSp (fun h => ?_) (fun h => ?_) <;> conv => whnf)
 case refine_2 =>
  refine zab rfl ?_
  rw [← hd]
  cases f with
  | zero => rfl
  | succ k => rw [down, if_neg (by omega)]
 have h1 := h
 (refine tSp (fun h => ?_) (fun h => ?_) <;> conv => whnf)
 case refine_2 =>
  refine zab rfl ?_
  rw [← hd]
  cases f with
  | zero => rfl
  | succ k => omega
 obtain ⟨k, rfl⟩ : ∃ k, f = k + 1 := ⟨f - 1, by omega⟩
 have hnk : n = a.base + k := by omega
 refine zbm mixed (by kernel_rfl) (fun k : Nat => k ≤ 7) (fun k => [(13, iv k), (12, iv (haveB m n k))]) [] (fun k => 7 - k) 0 (by decide) ?_ ?_
 ·conv => whnf
  exact wkD
 ·intro k hk
  rcases (by omega : k = 0 ∨ k = 1 ∨ k = 2 ∨ k = 3 ∨ k = 4 ∨ k = 5 ∨ k = 6 ∨ k = 7) with rfl | rfl | rfl | rfl | rfl | rfl | rfl | rfl
  ·have ha := zei m n (k := 0) (by decide)
   conv => whnf
   refine ⟨⟨by decide, by decide⟩, ?_⟩
   conv => whnf
   (refine tSp (fun h => ?_) (fun h => ?_) <;> conv => whnf)
   ·((with_reducible refine And.intro (And.intro (by first | decide | omega) (by first | decide | omega)) ?_); conv => whnf)
    refine ⟨1, ⟨by omega, by omega⟩, ?_⟩
    conv => whnf
    have e := ha h
    (refine wkx ?_; refine ⟨?_, ?_, ?_⟩ <;> (conv => whnf) <;> repeat' first | exact wkc | (with_reducible refine And.intro ?_ ?_) <;> first | exact wks | refine wko ?_ | refine wki ?_ | refine wkb ?_ | (refine zai ?_; conv => whnf) | (refine zag ?_; conv => whnf) | (refine zae ?_; conv => whnf) | conv => whnf)
    all_goals first | exact e | rfl | trace_state
   ·refine ⟨1, ⟨by omega, by omega⟩, ?_⟩
    conv => whnf
    have e : haveB m n 1 = haveB m n 0 := if_neg h
    (refine wkx ?_; refine ⟨?_, ?_, ?_⟩ <;> (conv => whnf) <;> repeat' first | exact wkc | (with_reducible refine And.intro ?_ ?_) <;> first | exact wks | refine wko ?_ | refine wki ?_ | refine wkb ?_ | (refine zai ?_; conv => whnf) | (refine zag ?_; conv => whnf) | (refine zae ?_; conv => whnf) | conv => whnf)
    all_goals first | exact e.symm | rfl | trace_state
  ·have ha := zei m n (k := 1) (by decide)
   conv => whnf
   refine ⟨⟨by decide, by decide⟩, ?_⟩
   conv => whnf
   (refine tSp (fun h => ?_) (fun h => ?_) <;> conv => whnf)
   ·((with_reducible refine And.intro (And.intro (by first | decide | omega) (by first | decide | omega)) ?_); conv => whnf)
    refine ⟨2, ⟨by omega, by omega⟩, ?_⟩
    conv => whnf
    have e := ha h
    (refine wkx ?_; refine ⟨?_, ?_, ?_⟩ <;> (conv => whnf) <;> repeat' first | exact wkc | (with_reducible refine And.intro ?_ ?_) <;> first | exact wks | refine wko ?_ | refine wki ?_ | refine wkb ?_ | (refine zai ?_; conv => whnf) | (refine zag ?_; conv => whnf) | (refine zae ?_; conv => whnf) | conv => whnf)
    all_goals first | exact e | rfl | trace_state
   ·refine ⟨2, ⟨by omega, by omega⟩, ?_⟩
    conv => whnf
    have e : haveB m n 2 = haveB m n 1 := if_neg h
    (refine wkx ?_; refine ⟨?_, ?_, ?_⟩ <;> (conv => whnf) <;> repeat' first | exact wkc | (with_reducible refine And.intro ?_ ?_) <;> first | exact wks | refine wko ?_ | refine wki ?_ | refine wkb ?_ | (refine zai ?_; conv => whnf) | (refine zag ?_; conv => whnf) | (refine zae ?_; conv => whnf) | conv => whnf)
    all_goals first | exact e.symm | rfl | trace_state
  ·have ha := zei m n (k := 2) (by decide)
   conv => whnf
   refine ⟨⟨by decide, by decide⟩, ?_⟩
   conv => whnf
   (refine tSp (fun h => ?_) (fun h => ?_) <;> conv => whnf)
   ·((with_reducible refine And.intro (And.intro (by first | decide | omega) (by first | decide | omega)) ?_); conv => whnf)
    refine ⟨3, ⟨by omega, by omega⟩, ?_⟩
    conv => whnf
    have e := ha h
    (refine wkx ?_; refine ⟨?_, ?_, ?_⟩ <;> (conv => whnf) <;> repeat' first | exact wkc | (with_reducible refine And.intro ?_ ?_) <;> first | exact wks | refine wko ?_ | refine wki ?_ | refine wkb ?_ | (refine zai ?_; conv => whnf) | (refine zag ?_; conv => whnf) | (refine zae ?_; conv => whnf) | conv => whnf)
    all_goals first | exact e | rfl | trace_state
   ·refine ⟨3, ⟨by omega, by omega⟩, ?_⟩
    conv => whnf
    have e : haveB m n 3 = haveB m n 2 := if_neg h
    (refine wkx ?_; refine ⟨?_, ?_, ?_⟩ <;> (conv => whnf) <;> repeat' first | exact wkc | (with_reducible refine And.intro ?_ ?_) <;> first | exact wks | refine wko ?_ | refine wki ?_ | refine wkb ?_ | (refine zai ?_; conv => whnf) | (refine zag ?_; conv => whnf) | (refine zae ?_; conv => whnf) | conv => whnf)
    all_goals first | exact e.symm | rfl | trace_state
  ·have ha := zei m n (k := 3) (by decide)
   conv => whnf
   refine ⟨⟨by decide, by decide⟩, ?_⟩
   conv => whnf
   (refine tSp (fun h => ?_) (fun h => ?_) <;> conv => whnf)
   ·((with_reducible refine And.intro (And.intro (by first | decide | omega) (by first | decide | omega)) ?_); conv => whnf)
    refine ⟨4, ⟨by omega, by omega⟩, ?_⟩
    conv => whnf
    have e := ha h
    (refine wkx ?_; refine ⟨?_, ?_, ?_⟩ <;> (conv => whnf) <;> repeat' first | exact wkc | (with_reducible refine And.intro ?_ ?_) <;> first | exact wks | refine wko ?_ | refine wki ?_ | refine wkb ?_ | (refine zai ?_; conv => whnf) | (refine zag ?_; conv => whnf) | (refine zae ?_; conv => whnf) | conv => whnf)
    all_goals first | exact e | rfl | trace_state
   ·refine ⟨4, ⟨by omega, by omega⟩, ?_⟩
    conv => whnf
    have e : haveB m n 4 = haveB m n 3 := if_neg h
    (refine wkx ?_; refine ⟨?_, ?_, ?_⟩ <;> (conv => whnf) <;> repeat' first | exact wkc | (with_reducible refine And.intro ?_ ?_) <;> first | exact wks | refine wko ?_ | refine wki ?_ | refine wkb ?_ | (refine zai ?_; conv => whnf) | (refine zag ?_; conv => whnf) | (refine zae ?_; conv => whnf) | conv => whnf)
    all_goals first | exact e.symm | rfl | trace_state
  ·have ha := zei m n (k := 4) (by decide)
   conv => whnf
   refine ⟨⟨by decide, by decide⟩, ?_⟩
   conv => whnf
   (refine tSp (fun h => ?_) (fun h => ?_) <;> conv => whnf)
   ·((with_reducible refine And.intro (And.intro (by first | decide | omega) (by first | decide | omega)) ?_); conv => whnf)
    refine ⟨5, ⟨by omega, by omega⟩, ?_⟩
    conv => whnf
    have e := ha h
    (refine wkx ?_; refine ⟨?_, ?_, ?_⟩ <;> (conv => whnf) <;> repeat' first | exact wkc | (with_reducible refine And.intro ?_ ?_) <;> first | exact wks | refine wko ?_ | refine wki ?_ | refine wkb ?_ | (refine zai ?_; conv => whnf) | (refine zag ?_; conv => whnf) | (refine zae ?_; conv => whnf) | conv => whnf)
    all_goals first | exact e | rfl | trace_state
   ·refine ⟨5, ⟨by omega, by omega⟩, ?_⟩
    conv => whnf
    have e : haveB m n 5 = haveB m n 4 := if_neg h
    (refine wkx ?_; refine ⟨?_, ?_, ?_⟩ <;> (conv => whnf) <;> repeat' first | exact wkc | (with_reducible refine And.intro ?_ ?_) <;> first | exact wks | refine wko ?_ | refine wki ?_ | refine wkb ?_ | (refine zai ?_; conv => whnf) | (refine zag ?_; conv => whnf) | (refine zae ?_; conv => whnf) | conv => whnf)
    all_goals first | exact e.symm | rfl | trace_state
  ·have ha := zei m n (k := 5) (by decide)
   conv => whnf
   refine ⟨⟨by decide, by decide⟩, ?_⟩
   conv => whnf
   (refine tSp (fun h => ?_) (fun h => ?_) <;> conv => whnf)
   ·((with_reducible refine And.intro (And.intro (by first | decide | omega) (by first | decide | omega)) ?_); conv => whnf)
    refine ⟨6, ⟨by omega, by omega⟩, ?_⟩
    conv => whnf
    have e := ha h
    (refine wkx ?_; refine ⟨?_, ?_, ?_⟩ <;> (conv => whnf) <;> repeat' first | exact wkc | (with_reducible refine And.intro ?_ ?_) <;> first | exact wks | refine wko ?_ | refine wki ?_ | refine wkb ?_ | (refine zai ?_; conv => whnf) | (refine zag ?_; conv => whnf) | (refine zae ?_; conv => whnf) | conv => whnf)
    all_goals first | exact e | rfl | trace_state
   ·refine ⟨6, ⟨by omega, by omega⟩, ?_⟩
    conv => whnf
    have e : haveB m n 6 = haveB m n 5 := if_neg h
    (refine wkx ?_; refine ⟨?_, ?_, ?_⟩ <;> (conv => whnf) <;> repeat' first | exact wkc | (with_reducible refine And.intro ?_ ?_) <;> first | exact wks | refine wko ?_ | refine wki ?_ | refine wkb ?_ | (refine zai ?_; conv => whnf) | (refine zag ?_; conv => whnf) | (refine zae ?_; conv => whnf) | conv => whnf)
    all_goals first | exact e.symm | rfl | trace_state
  ·have ha := zei m n (k := 6) (by decide)
   conv => whnf
   refine ⟨⟨by decide, by decide⟩, ?_⟩
   conv => whnf
   (refine tSp (fun h => ?_) (fun h => ?_) <;> conv => whnf)
   ·((with_reducible refine And.intro (And.intro (by first | decide | omega) (by first | decide | omega)) ?_); conv => whnf)
    refine ⟨7, ⟨by omega, by omega⟩, ?_⟩
    conv => whnf
    have e := ha h
    (refine wkx ?_; refine ⟨?_, ?_, ?_⟩ <;> (conv => whnf) <;> repeat' first | exact wkc | (with_reducible refine And.intro ?_ ?_) <;> first | exact wks | refine wko ?_ | refine wki ?_ | refine wkb ?_ | (refine zai ?_; conv => whnf) | (refine zag ?_; conv => whnf) | (refine zae ?_; conv => whnf) | conv => whnf)
    all_goals first | exact e | rfl | trace_state
   ·refine ⟨7, ⟨by omega, by omega⟩, ?_⟩
    conv => whnf
    have e : haveB m n 7 = haveB m n 6 := if_neg h
    (refine wkx ?_; refine ⟨?_, ?_, ?_⟩ <;> (conv => whnf) <;> repeat' first | exact wkc | (with_reducible refine And.intro ?_ ?_) <;> first | exact wks | refine wko ?_ | refine wki ?_ | refine wkb ?_ | (refine zai ?_; conv => whnf) | (refine zag ?_; conv => whnf) | (refine zae ?_; conv => whnf) | conv => whnf)
    all_goals first | exact e.symm | rfl | trace_state
  ·have hnI : isI n := by unfold isI; omega
   have kft := c_rFits a hm hb hs n hnI a.term
   have kq := zi1 (force a (lastI a)).1 (haveB m n 7)
   conv => whnf
   ((try (refine Exists.intro none ?_; conv => whnf)); (with_reducible refine zaa (kft) ?_); conv => whnf)
   (refine tSp (fun h => ?_) (fun h => ?_) <;> conv => whnf)
   ·have h2 := h
    ((try (refine Exists.intro none ?_; conv => whnf)); (with_reducible refine zaa (kq) ?_); conv => whnf)
    (refine tSp (fun h => ?_) (fun h => ?_) <;> conv => whnf)
    ·refine zab rfl ?_
     rw [← hd, down, if_pos (by omega), if_pos (by rw [← hnk]; simp [hit, h2, h]), hnk]
    ·refine ⟨k, ⟨⟨by omega, ?_⟩, by omega⟩, ?_⟩
     ·rw [← hd, down, if_pos (by omega), if_neg (by rw [← hnk]; simp [hit, h2, h])]
     ·conv => whnf
      (refine wkx ?_; refine ⟨?_, ?_, ?_⟩ <;> (conv => whnf) <;> repeat' first | exact wkc | (with_reducible refine And.intro ?_ ?_) <;> first | exact wks | refine wko ?_ | refine wki ?_ | refine wkb ?_ | (refine zai ?_; conv => whnf) | (refine zag ?_; conv => whnf) | (refine zae ?_; conv => whnf) | conv => whnf)
      rw [zaj (by omega) (by omega)]; omega
   ·refine ⟨k, ⟨⟨by omega, ?_⟩, by omega⟩, ?_⟩
    ·rw [← hd, down, if_pos (by omega), if_neg (by rw [← hnk]; simp [hit, h])]
    ·conv => whnf
     (refine wkx ?_; refine ⟨?_, ?_, ?_⟩ <;> (conv => whnf) <;> repeat' first | exact wkc | (with_reducible refine And.intro ?_ ?_) <;> first | exact wks | refine wko ?_ | refine wki ?_ | refine wkb ?_ | (refine zai ?_; conv => whnf) | (refine zag ?_; conv => whnf) | (refine zae ?_; conv => whnf) | conv => whnf)
     rw [zaj (by omega) (by omega)]; omega
abbrev qR (r : Rft) (c : VCall) : Rd := ⟨c, r.commit, farM (r.round + 1), shl 1 r.id⟩
noncomputable abbrev askR (r : Rft) (c : VCall) : Rft := { r with reads := r.reads ++ [qR r c] }
noncomputable abbrev ownB (r : Rft) : Bool := fits r.hard r.commit r.hard.term
noncomputable def askE (r : Rft) (c : VCall) : Int := if zeq r = 0 then (if ownB r = true then (if callR c = 0 then (if r.reads.length < 4 then 0 else 12) else callR c) else 13) else 11
abbrev radR (r : Rft) (x : Ent) : Rft := { r with hard := logR r x, mtch := r.mtch.put r.id.toNat (lastI (logR r x)) }
theorem Fit.small {r : Rft} (h : Fit r) : r.small := ⟨by have := h.log; omega, by have := h.base; unfold isI; omega, h.snap, by have := h.reads; omega⟩
end Go.Proofs
