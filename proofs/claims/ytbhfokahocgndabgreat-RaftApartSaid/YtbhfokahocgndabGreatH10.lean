import Derived.Test.YtbhfokahocgndabGreatC1
import Derived.Test.YtbhfokahocgndabGreatH9
import Derived.Test.YtbhfokahocgndabGreatC5
import Derived.Test.YtbhfokahocgndabGreatC24
import Derived.Test.YtbhfokahocgndabGreatC47
import Derived.Test.YtbhfokahocgndabGreatC54
import Derived.Test.YtbhfokahocgndabGreatC13
/- Contracts of functions: a replica leads. -/
set_option linter.unusedSimpArgs false
set_option linter.unusedVariables false
namespace Go.Proofs
open Go.Pv
set_option maxRecDepth 100000
abbrev farM (n : Int) : Int := if 1099511627776 < n then 1099511627776 else n
abbrev allA (n : Int) : Arr := ⟨n, n, n, n, n, n, n⟩
abbrev led0 (r : Rft) : Rft := { r with role := 3, lead := r.id, votes := 0, reads := [], quiet := 0, round := farM (r.round + 1), mtch := zA, silent := zA }
noncomputable def leadR (r : Rft) : Rft := { addR (led0 r) (et r.hard.term) with next := allA (lastI (logR r (et r.hard.term))) }
theorem zld (r : Rft) : (leadR r).hard.log = r.hard.log ++ [et r.hard.term] := rfl
abbrev repX (x : Rft) (out : List (List PV)) : List PV := repV x (.sl 1 (x.hard.snap.map encB)) (.sl 16 (x.hard.log.map Ent.enc)) (.sl 13 (x.reads.map Rd.enc)) (.sl 16 out)
abbrev obX : List (Nat × Option (Bool × Nat × List (List PV))) := [(1000000, none), (1000001, none), (1000002, none), (1000003, none)]
set_option maxHeartbeats 8000000 in
theorem c_lead (r : Rft) (hid : 0 ≤ r.id ∧ r.id < 7) (hm : r.hard.log.length < 4294967) (hsn : r.hard.snap.length ≤ 4294967296) (hb : 0 ≤ r.hard.base ∧ r.hard.base ≤ 1099511627776) (hr : 0 ≤ r.round ∧ r.round ≤ 1099511627776) (out : List (List PV)) (ho : out.length ≤ 4000000) :
    CtrE Tryz.prog 132 [.pt 1000000 0] [(1000000, repI r out)] (obI r out) (.tu []) [(1000000, repX (leadR r) (out ++ (allL (leadR r)).map (zay (leadR r))))] obX := by
 have ka := c_add (led0 r) hid (by show r.hard.log.length ≤ _; omega) hb.1 hb.2 out (et r.hard.term)
 have hlast : lastI (logR r (et r.hard.term)) = r.hard.base + r.hard.log.length + 1 := by
  have h1 : (logR r (et r.hard.term)).log.length = r.hard.log.length + 1 := by rw [List.length_append]; rfl
  unfold lastI
  rw [if_neg (by omega), h1]
  have h2 : (logR r (et r.hard.term)).base = r.hard.base := rfl
  rw [h2]
  have : w64 (r.hard.base + ((r.hard.log.length + 1 : Nat) : Int)) = r.hard.base + ((r.hard.log.length + 1 : Nat) : Int) := zaj (by omega) (by omega)
  rw [this]; omega
 have ks := c_sendAll (leadR r) ⟨by rw [zld, List.length_append]; show r.hard.log.length + 1 ≤ _; omega, hsn, hb, fun i hi => by
  have : (leadR r).next.at i = lastI (logR r (et r.hard.term)) := by
   rcases (by omega : i = 0 ∨ i = 1 ∨ i = 2 ∨ i = 3 ∨ i = 4 ∨ i = 5 ∨ i = 6) with rfl | rfl | rfl | rfl | rfl | rfl | rfl <;> rfl
  rw [this, hlast]; unfold isI; omega⟩ out ho
 have ew : IntKind.i64.wrap (r.round + 1) = r.round + 1 := zaj (by omega) (by omega)
 refine zcg mixed Tryz.func132 rfl (by kernel_rfl) (by kernel_rfl) ?_
 refine tSeq ?_
 conv => whnf
 refine tri_bornB 1000000 39 3000 13 _ rfl rfl rfl ?_
 conv => whnf
 refine pwS ?_
 conv => whnf
 rw [ew]
 ((refine Exists.intro (some ([(1000000, 1000000)], [(1000000, 1000000), (1000001, 1000001), (1000002, 3000), (1000003, 1000003)], [(1, 4000)])) ?_); (conv => whnf); refine zau (ka) (by kernel_rfl) (by kernel_rfl) (by kernel_rfl) ?_; conv => whnf)
 refine zb7 mixed (by kernel_rfl) 9 ?_
 conv => whnf
 refine ⟨⟨by decide, by decide⟩, ?_⟩
 conv => whnf
 refine ⟨⟨by decide, by decide⟩, ?_⟩
 conv => whnf
 refine ⟨⟨by decide, by decide⟩, ?_⟩
 conv => whnf
 refine ⟨⟨by decide, by decide⟩, ?_⟩
 conv => whnf
 refine ⟨⟨by decide, by decide⟩, ?_⟩
 conv => whnf
 refine ⟨⟨by decide, by decide⟩, ?_⟩
 conv => whnf
 refine ⟨⟨by decide, by decide⟩, ?_⟩
 conv => whnf
 ((refine Exists.intro (some ([(1000000, 1000000)], [(1000000, 1000000), (1000001, 4000), (1000002, 3000), (1000003, 1000003)], [(1, 5000)])) ?_); (conv => whnf); refine zau (ks) (by kernel_rfl) (by kernel_rfl) (by kernel_rfl) ?_; conv => whnf)
 (refine zal 1000000 39 3000 _ _ rfl rfl rfl rfl ?_; refine zal 1000000 40 5000 _ _ rfl rfl rfl rfl ?_; refine zaf [(1000000, 1000000), (1000001, 1000001), (1000002, 1000002), (1000003, 1000003)] [] ?_; (conv => whnf); exact wkD)
structure Fit (r : Rft) : Prop where
 id : 0 ≤ r.id ∧ r.id < 7
 log : r.hard.log.length < 4294967
 snap : r.hard.snap.length ≤ 4294967296
 base : 0 ≤ r.hard.base ∧ r.hard.base ≤ 1099511627776
 term : 0 ≤ r.hard.term ∧ r.hard.term ≤ 1099511627776
 round : 0 ≤ r.round ∧ r.round ≤ 1099511627776
 quiet : 0 ≤ r.quiet ∧ r.quiet ≤ 1099511627776
 wait : 0 ≤ r.wait ∧ r.wait ≤ 1099511627776
 next : ∀ i, i < 7 → 0 ≤ r.next.at i ∧ r.next.at i ≤ 1099511627776
 silent : ∀ i, i < 7 → 0 ≤ r.silent.at i ∧ r.silent.at i ≤ 1099511627776
 reads : r.reads.length ≤ 1000
abbrev std0 (r : Rft) : Rft := { r with hard := { r.hard with term := r.hard.term + 1, vote := r.id }, role := 2, votes := shl 1 r.id, lead := -1 }
noncomputable abbrev stdR (r : Rft) : Rft := { std0 r with wait := delay (zac (std0 r)) r.id }
noncomputable def zed (r : Rft) : Rft := if r.hard.term = 1099511627776 then fallR r r.hard.term (-1) else if zas (zac (stdR r)) (shl 1 r.id) = true then leadR (stdR r) else stdR r
noncomputable def zfr (r : Rft) : List (List PV) := if r.hard.term = 1099511627776 then [] else if zas (zac (stdR r)) (shl 1 r.id) = true then (allL (leadR (stdR r))).map (zay (leadR (stdR r))) else (votL (stdR r)).map (askM (stdR r) 3 (r.hard.term + 1))
theorem zdg (r : Rft) (t l : Int) : (fallR r t l).hard.snap = r.hard.snap := by unfold fallR; split <;> rfl
theorem zcn (r : Rft) (t l : Int) : (fallR r t l).hard.log = r.hard.log := by unfold fallR; split <;> rfl
set_option maxHeartbeats 8000000 in
theorem c_stand (r : Rft) (hf : Fit r) (out : List (List PV)) (ho : out.length ≤ 4000000) :
    CtrE Tryz.prog 124 [.pt 1000000 0] [(1000000, repI r out)] (obI r out) (.tu []) [(1000000, repX (zed r) (out ++ zfr r))] obX := by
 have hm : r.hard.log.length ≤ maxLen := zam (by have := hf.log; omega)
 have kf := c_fall r hm out r.hard.term (-1)
 have kb := c_bitR { r with hard := { r.hard with term := r.hard.term + 1 } } out hf.id
 have kc := zd9 (std0 r) hm
 have kd := zle (zac (std0 r)) r.id
 have kw := c_Wins (stdR r) hm
 have kl := c_lead (stdR r) hf.id hf.log hf.snap hf.base hf.round out ho
 have ka := c_canvass (stdR r) hm out ho 3 (r.hard.term + 1)
 unfold zed zfr
 have hT := hf.term
 refine zbr Tryz.func124 ?_; conv => whnf
 (refine tSp (fun h => ?_) (fun h => ?_) <;> conv => whnf)
 ·have h : r.hard.term = 1099511627776 := h
  rw [if_pos h, if_pos h, List.append_nil]
  ((refine Exists.intro (some ([(1000000, 1000000)], [(1000000, 1000000), (1000001, 1000001), (1000002, 1000002), (1000003, 1000003)], [(2, 3000)])) ?_); (conv => whnf); first | ((with_reducible refine zao (kf) ?_); conv => whnf))
  (refine zal 1000000 9 1000000 _ _ rfl rfl rfl rfl ?_; refine zal 1000000 10 1000001 _ _ rfl rfl rfl rfl ?_; refine zal 1000000 39 3000 _ _ rfl rfl rfl rfl ?_; refine zal 1000000 40 1000003 _ _ rfl rfl rfl rfl ?_; refine zaf [(1000000, 1000000), (1000001, 1000001), (1000002, 1000002), (1000003, 1000003)] [] ?_; (conv => whnf); (refine wkx ?_; refine ⟨?_, ?_, ?_⟩ <;> (conv => whnf) <;> repeat' first | exact wkc | (with_reducible refine And.intro ?_ ?_) <;> first | exact wks | refine wko ?_ | refine wki ?_ | refine wkb ?_ | (refine zai ?_; conv => whnf) | (refine zag ?_; conv => whnf) | (refine zae ?_; conv => whnf) | conv => whnf))
  all_goals first | rfl | exact .inl rfl | (rw [zdg]; exact .inl rfl) | (rw [zcn]; exact .inl rfl) | trace_state
 ·have h : ¬ r.hard.term = 1099511627776 := h
  rw [if_neg h, if_neg h]
  have ew : IntKind.i64.wrap (r.hard.term + 1) = r.hard.term + 1 := zaj (by omega) (by omega)
  rw [ew]
  conv => whnf
  ((refine Exists.intro (some ([(1000000, 1000000)], [(1000000, 1000000), (1000001, 1000001), (1000002, 1000002), (1000003, 1000003)], [(999999, 0)])) ?_); (conv => whnf); (with_reducible refine zao (kb) ?_); (conv => whnf); refine And.intro (And.intro rfl rfl) ?_; conv => whnf)
  ((try (refine Exists.intro none ?_; conv => whnf)); refine own0 ?_; conv => whnf)
  ((try (refine Exists.intro none ?_; conv => whnf)); refine own0 ?_; conv => whnf)
  ((try (refine Exists.intro none ?_; conv => whnf)); refine own0 ?_; conv => whnf)
  ((try ((refine Exists.intro none ?_); (conv => whnf))); first | (refine zak (kc) (by simp only [List.drop_zero, List.take_length]) ?_; conv => whnf))
  ((try (refine Exists.intro none ?_; conv => whnf)); (with_reducible refine zaa (kd) ?_); conv => whnf)
  ((try (refine Exists.intro none ?_; conv => whnf)); refine own0 ?_; conv => whnf)
  ((try (refine Exists.intro none ?_; conv => whnf)); refine own0 ?_; conv => whnf)
  ((try (refine Exists.intro none ?_; conv => whnf)); refine own0 ?_; conv => whnf)
  cases hq : zas (zac (stdR r)) (shl 1 r.id) with
  | true =>
   rw [if_pos rfl, if_pos rfl]
   have kw := kw
   rw [show zas (zac (stdR r)) (stdR r).votes = true from hq] at kw
   ((try ((refine Exists.intro none ?_); (conv => whnf))); first | (refine zak (kw) (by simp only [List.drop_zero, List.take_length]) ?_; conv => whnf))
   ((refine Exists.intro (some ([(1000000, 1000000)], [(1000000, 1000000), (1000001, 1000001), (1000002, 1000002), (1000003, 1000003)], [])) ?_); (conv => whnf); first | ((with_reducible refine zao (kl) ?_); conv => whnf))
   (refine zaf [(1000000, 1000000), (1000001, 1000001), (1000002, 1000002), (1000003, 1000003)] [] ?_; (conv => whnf); (refine wkx ?_; refine ⟨?_, ?_, ?_⟩ <;> (conv => whnf) <;> repeat' first | exact wkc | (with_reducible refine And.intro ?_ ?_) <;> first | exact wks | refine wko ?_ | refine wki ?_ | refine wkb ?_ | (refine zai ?_; conv => whnf) | (refine zag ?_; conv => whnf) | (refine zae ?_; conv => whnf) | conv => whnf))
   all_goals first | rfl | exact .inl rfl | (rw [zdg]; exact .inl rfl) | (rw [zcn]; exact .inl rfl) | trace_state
  | false =>
   rw [if_neg (by decide), if_neg (by decide)]
   have kw := kw
   rw [show zas (zac (stdR r)) (stdR r).votes = false from hq] at kw
   ((try ((refine Exists.intro none ?_); (conv => whnf))); first | (refine zak (kw) (by simp only [List.drop_zero, List.take_length]) ?_; conv => whnf))
   ((refine Exists.intro (some ([(1000000, 1000000)], [(1000000, 1000000), (1000001, 1000001), (1000002, 1000002), (1000003, 1000003)], [(1, 4000)])) ?_); (conv => whnf); first | ((with_reducible refine zao (ka) ?_); conv => whnf))
   (refine zal 1000000 9 1000000 _ _ rfl rfl rfl rfl ?_; refine zal 1000000 10 1000001 _ _ rfl rfl rfl rfl ?_; refine zal 1000000 39 1000002 _ _ rfl rfl rfl rfl ?_; refine zal 1000000 40 4000 _ _ rfl rfl rfl rfl ?_; refine zaf [(1000000, 1000000), (1000001, 1000001), (1000002, 1000002), (1000003, 1000003)] [] ?_; (conv => whnf); (refine wkx ?_; refine ⟨?_, ?_, ?_⟩ <;> (conv => whnf) <;> repeat' first | exact wkc | (with_reducible refine And.intro ?_ ?_) <;> first | exact wks | refine wko ?_ | refine wki ?_ | refine wkb ?_ | (refine zai ?_; conv => whnf) | (refine zag ?_; conv => whnf) | (refine zae ?_; conv => whnf) | conv => whnf))
   all_goals first | rfl | exact .inl rfl | (rw [zdg]; exact .inl rfl) | (rw [zcn]; exact .inl rfl) | trace_state
abbrev tq (r : Rft) : Rft := { r with quiet := farM (r.quiet + 1) }
abbrev zeroM (n : Int) : Int := if 0 > n then 0 else n
abbrev tw (r : Rft) : Rft := { tq r with wait := zeroM (r.wait - 1) }
abbrev ta (r : Rft) : Rft := { tw r with role := 1, lead := -1, votes := shl 1 r.id }
noncomputable abbrev taR (r : Rft) : Rft := { ta r with wait := delay (zac (ta r)) r.id }
noncomputable abbrev zb1 (r : Rft) : Bool := bitB (bor (zac r).full (zac r).wit) r.id
noncomputable def tickR (r : Rft) : Rft :=
 if zb1 r = false then tq r else if 0 < zeroM (r.wait - 1) then tw r else
 if zas (zac (taR r)) (shl 1 r.id) = true then zed (taR r) else taR r
noncomputable def tickO (r : Rft) : List (List PV) :=
 if zb1 r = false then [] else if 0 < zeroM (r.wait - 1) then [] else
 if zas (zac (taR r)) (shl 1 r.id) = true then zfr (taR r) else if r.hard.term < 1099511627776 then (votL (taR r)).map (askM (taR r) 1 (r.hard.term + 1)) else []
theorem zdi (c : Conf) {i : Int} (h : 0 ≤ i ∧ i < 7) : 0 ≤ delay c i ∧ delay c i ≤ 32 := by
 unfold delay
 have e1 : IntKind.i64.wrap (2 * i) = 2 * i := zaj (by omega) (by omega)
 have e2 : IntKind.i64.wrap (7 + i) = 7 + i := zaj (by omega) (by omega)
 have e3 : IntKind.i64.wrap (2 * (7 + i)) = 2 * (7 + i) := zaj (by omega) (by omega)
 have e4 : IntKind.i64.wrap (6 + 2 * i) = 6 + 2 * i := zaj (by omega) (by omega)
 have e5 : IntKind.i64.wrap (6 + 2 * (7 + i)) = 6 + 2 * (7 + i) := zaj (by omega) (by omega)
 rw [e1, e2, e3, e4, e5]
 split
 ·omega
 ·split <;> omega
set_option maxHeartbeats 8000000 in
theorem c_tick (r : Rft) (hf : Fit r) (out : List (List PV)) (ho : out.length ≤ 4000000) :
    CtrE Tryz.prog 46 [.pt 1000000 0] [(1000000, repI r out)] (obI r out) (.tu []) [(1000000, repX (tickR r) (out ++ tickO r))] obX := by
 have hm : r.hard.log.length ≤ maxLen := zam (by have := hf.log; omega)
 have kv := c_Voter (tq r) hm
 have kb := c_bitR (tw r) out hf.id
 have kc := zd9 (ta r) hm
 have kd := zle (zac (ta r)) r.id
 have kw := c_Wins (taR r) hm
 have hq1 : 0 ≤ farM (r.quiet + 1) ∧ farM (r.quiet + 1) ≤ 1099511627776 := by have := hf.quiet; unfold farM; split <;> omega
 have kst := c_stand (taR r) { id := hf.id, log := hf.log, snap := hf.snap, base := hf.base, term := hf.term, round := hf.round, quiet := hq1, wait := by have := zdi (zac (ta r)) hf.id; show 0 ≤ delay (zac (ta r)) r.id ∧ delay (zac (ta r)) r.id ≤ 1099511627776; omega, next := hf.next, silent := hf.silent, reads := hf.reads } out ho
 have kca := c_canvass (taR r) hm out ho 1 (r.hard.term + 1)
 have hT := hf.term
 have hQ := hf.quiet
 have hW := hf.wait
 have ew1 : IntKind.i64.wrap (r.quiet + 1) = r.quiet + 1 := zaj (by omega) (by omega)
 have ew2 : IntKind.i64.wrap (r.wait - 1) = r.wait - 1 := zaj (by omega) (by omega)
 have ew3 : IntKind.i64.wrap (r.hard.term + 1) = r.hard.term + 1 := zaj (by omega) (by omega)
 unfold tickR tickO
 refine zbr Tryz.func46 ?_; conv => whnf
 rw [ew1]
 conv => whnf
 ((try (refine Exists.intro none ?_; conv => whnf)); refine own0 ?_; conv => whnf)
 ((try (refine Exists.intro none ?_; conv => whnf)); refine own0 ?_; conv => whnf)
 ((try (refine Exists.intro none ?_; conv => whnf)); refine own0 ?_; conv => whnf)
 cases hv : zb1 r with
 | false =>
  rw [if_pos rfl, if_pos rfl, List.append_nil]
  rw [show bitB (bor (zac (tq r)).full (zac (tq r)).wit) (tq r).id = false from hv] at kv
  ((try ((refine Exists.intro none ?_); (conv => whnf))); first | (refine zak (kv) (by simp only [List.drop_zero, List.take_length]) ?_; conv => whnf))
  (refine zal 1000000 9 1000000 _ _ rfl rfl rfl rfl ?_; refine zal 1000000 10 1000001 _ _ rfl rfl rfl rfl ?_; refine zal 1000000 39 1000002 _ _ rfl rfl rfl rfl ?_; refine zal 1000000 40 1000003 _ _ rfl rfl rfl rfl ?_; refine zaf [(1000000, 1000000), (1000001, 1000001), (1000002, 1000002), (1000003, 1000003)] [] ?_; (conv => whnf); exact wkD)
 | true =>
  rw [if_neg (show ¬ true = false by decide), if_neg (show ¬ true = false by decide)]
  rw [show bitB (bor (zac (tq r)).full (zac (tq r)).wit) (tq r).id = true from hv] at kv
  ((try ((refine Exists.intro none ?_); (conv => whnf))); first | (refine zak (kv) (by simp only [List.drop_zero, List.take_length]) ?_; conv => whnf))
  rw [ew2]
  conv => whnf
  (refine tSp (fun h => ?_) (fun h => ?_) <;> conv => whnf)
  ·have h : 0 < zeroM (r.wait - 1) := h
   rw [if_pos h, if_pos h, List.append_nil]
   (refine zal 1000000 9 1000000 _ _ rfl rfl rfl rfl ?_; refine zal 1000000 10 1000001 _ _ rfl rfl rfl rfl ?_; refine zal 1000000 39 1000002 _ _ rfl rfl rfl rfl ?_; refine zal 1000000 40 1000003 _ _ rfl rfl rfl rfl ?_; refine zaf [(1000000, 1000000), (1000001, 1000001), (1000002, 1000002), (1000003, 1000003)] [] ?_; (conv => whnf); exact wkD)
  ·have h : ¬ 0 < zeroM (r.wait - 1) := h
   rw [if_neg h, if_neg h]
   ((refine Exists.intro (some ([(1000000, 1000000)], [(1000000, 1000000), (1000001, 1000001), (1000002, 1000002), (1000003, 1000003)], [(999999, 0)])) ?_); (conv => whnf); (with_reducible refine zao (kb) ?_); (conv => whnf); refine And.intro (And.intro rfl rfl) ?_; conv => whnf)
   ((try (refine Exists.intro none ?_; conv => whnf)); refine own0 ?_; conv => whnf)
   ((try (refine Exists.intro none ?_; conv => whnf)); refine own0 ?_; conv => whnf)
   ((try (refine Exists.intro none ?_; conv => whnf)); refine own0 ?_; conv => whnf)
   ((try ((refine Exists.intro none ?_); (conv => whnf))); first | (refine zak (kc) (by simp only [List.drop_zero, List.take_length]) ?_; conv => whnf))
   ((try (refine Exists.intro none ?_; conv => whnf)); (with_reducible refine zaa (kd) ?_); conv => whnf)
   ((try (refine Exists.intro none ?_; conv => whnf)); refine own0 ?_; conv => whnf)
   ((try (refine Exists.intro none ?_; conv => whnf)); refine own0 ?_; conv => whnf)
   ((try (refine Exists.intro none ?_; conv => whnf)); refine own0 ?_; conv => whnf)
   cases hq : zas (zac (taR r)) (shl 1 r.id) with
   | true =>
    rw [if_pos rfl, if_pos rfl]
    have kw := kw
    rw [show zas (zac (taR r)) (taR r).votes = true from hq] at kw
    ((try ((refine Exists.intro none ?_); (conv => whnf))); first | (refine zak (kw) (by simp only [List.drop_zero, List.take_length]) ?_; conv => whnf))
    ((refine Exists.intro (some ([(1000000, 1000000)], [(1000000, 1000000), (1000001, 1000001), (1000002, 1000002), (1000003, 1000003)], [])) ?_); (conv => whnf); first | ((with_reducible refine zao (kst) ?_); conv => whnf))
    (refine zaf [(1000000, 1000000), (1000001, 1000001), (1000002, 1000002), (1000003, 1000003)] [] ?_; (conv => whnf); exact wkD)
   | false =>
    rw [if_neg (show ¬ false = true by decide), if_neg (show ¬ false = true by decide)]
    have kw := kw
    rw [show zas (zac (taR r)) (taR r).votes = false from hq] at kw
    ((try ((refine Exists.intro none ?_); (conv => whnf))); first | (refine zak (kw) (by simp only [List.drop_zero, List.take_length]) ?_; conv => whnf))
    (refine tSp (fun h => ?_) (fun h => ?_) <;> conv => whnf)
    ·have h : r.hard.term < 1099511627776 := h
     rw [if_pos h]
     rw [ew3]
     conv => whnf
     ((refine Exists.intro (some ([(1000000, 1000000)], [(1000000, 1000000), (1000001, 1000001), (1000002, 1000002), (1000003, 1000003)], [(1, 4000)])) ?_); (conv => whnf); first | ((with_reducible refine zao (kca) ?_); conv => whnf))
     (refine zal 1000000 9 1000000 _ _ rfl rfl rfl rfl ?_; refine zal 1000000 10 1000001 _ _ rfl rfl rfl rfl ?_; refine zal 1000000 39 1000002 _ _ rfl rfl rfl rfl ?_; refine zal 1000000 40 4000 _ _ rfl rfl rfl rfl ?_; refine zaf [(1000000, 1000000), (1000001, 1000001), (1000002, 1000002), (1000003, 1000003)] [] ?_; (conv => whnf); exact wkD)
    ·have h : ¬ r.hard.term < 1099511627776 := h
     rw [if_neg h, List.append_nil]
     (refine zal 1000000 9 1000000 _ _ rfl rfl rfl rfl ?_; refine zal 1000000 10 1000001 _ _ rfl rfl rfl rfl ?_; refine zal 1000000 39 1000002 _ _ rfl rfl rfl rfl ?_; refine zal 1000000 40 1000003 _ _ rfl rfl rfl rfl ?_; refine zaf [(1000000, 1000000), (1000001, 1000001), (1000002, 1000002), (1000003, 1000003)] [] ?_; (conv => whnf); exact wkD)
theorem zcx {g x : Int} (h : inR g x = true) : 0 ≤ x ∧ x ≤ g := of_decide_eq_true h
theorem arrR_of {g : Int} {a : Arr} (h : arrR g a = true) : ∀ i, i < 7 → 0 ≤ a.at i ∧ a.at i ≤ g := by
 unfold arrR at h
 simp only [Bool.and_eq_true] at h
 obtain ⟨h0, h1, h2, h3, h4, h5, h6⟩ := h
 intro i hi
 rcases (by omega : i = 0 ∨ i = 1 ∨ i = 2 ∨ i = 3 ∨ i = 4 ∨ i = 5 ∨ i = 6) with rfl | rfl | rfl | rfl | rfl | rfl | rfl
 ·exact zcx h0
 ·exact zcx h1
 ·exact zcx h2
 ·exact zcx h3
 ·exact zcx h4
 ·exact zcx h5
 ·exact zcx h6
structure Rgt (r : Rft) : Prop where
 hard : hardB r.hard = true
 id : 0 ≤ r.id ∧ r.id < 7
 com : r.hard.base ≤ r.commit ∧ r.commit ≤ lastI r.hard
 role : 0 ≤ r.role ∧ r.role ≤ 3
 lead : -1 ≤ r.lead ∧ r.lead < 7
 wait : 0 ≤ r.wait ∧ r.wait ≤ 100
 quiet : 0 ≤ r.quiet ∧ r.quiet ≤ 1099511627776
 round : 0 ≤ r.round ∧ r.round ≤ 1099511627776
 votes : 0 ≤ r.votes ∧ r.votes ≤ 127
 next : ∀ i, i < 7 → 0 ≤ r.next.at i ∧ r.next.at i ≤ 1099511627776
 mtch : ∀ i, i < 7 → 0 ≤ r.mtch.at i ∧ r.mtch.at i ≤ lastI r.hard
 silent : ∀ i, i < 7 → 0 ≤ r.silent.at i ∧ r.silent.at i ≤ 1099511627776
 reads : rdsB r = true
 own : r.role = 3 → r.lead = r.id
theorem rgt_of {r : Rft} (h : zdv r = true) : Rgt r := by
 unfold zdv at h
 simp only [Bool.and_eq_true, decide_eq_true_eq] at h
 obtain ⟨h1, h2, h3, h4, h5, h6, h7, h8, ⟨h9, h10⟩, h11, h12, h13, h14, h15, h16⟩ := h
 have h2 := zcx h2
 exact ⟨h1, by omega, ⟨h3, h4⟩, zcx h5, ⟨h6, h7⟩, zcx h8, zcx h9, zcx h10, zcx h11, arrR_of h12, arrR_of h13, arrR_of h14, h15, fun e => by rw [if_pos e] at h16; exact of_decide_eq_true h16⟩
theorem Rgt.fit {r : Rft} (h : Rgt r) (hm : r.hard.log.length < 4294967) : Fit r := by
 have hA := za8 h.hard
 refine ⟨h.id, hm, ?_, hA.1.b, hA.1.t, h.round, h.quiet, ⟨h.wait.1, by have := h.wait.2; omega⟩, h.next, h.silent, ?_⟩
 ·have := h.hard
  unfold hardB at this
  simp only [Bool.and_eq_true, decide_eq_true_eq] at this
  omega
 ·have := h.reads
  unfold rdsB at this
  split at this
  ·cases this
  ·omega
set_option maxHeartbeats 4000000 in
theorem c_Tick (r : Rft) (hr : zdv r = true) (hm : r.hard.log.length < 4294967) (hn : r.role ≠ 3) :
    Ctr Tryz.prog 12 [.ag r.enc] (.tu [.ag (tickR r).enc, .sl 16 (tickO r), iv 0]) [] := by
 have hg := rgt_of hr
 have hf := hg.fit hm
 have ko := c_of r hf.snap (by omega) (by have := hf.reads; omega) hr
 have kt := c_tick r hf [] (by decide)
 refine sBody Tryz.func12 ?_; conv => whnf
 ((refine Exists.intro (some ([(28, 500)], [], [(0, 600), (1, 601), (2, 602), (3, 603)])) ?_); (conv => whnf); first | ((with_reducible refine zao (ko) ?_); conv => whnf))
 (refine tSp (fun h => ?_) (fun h => ?_) <;> conv => whnf)
 ·exact absurd h hn
 ·((refine Exists.intro (some ([(1000000, 500)], [(1000000, 600), (1000001, 601), (1000002, 602), (1000003, 603)], [])) ?_); (conv => whnf); refine zau (kt) (by kernel_rfl) (by kernel_rfl) (by kernel_rfl) ?_; conv => whnf)
  exact zab rfl rfl
noncomputable abbrev rNew0 (id : Int) (h : Hrd) : Rft := ⟨id, h, h.base, 0, -1, 0, 0, 0, 0, zA, zA, zA, []⟩
noncomputable abbrev newR (id : Int) (h : Hrd) : Rft := { rNew0 id h with wait := delay (zac (rNew0 id h)) id }
set_option maxHeartbeats 4000000 in
theorem c_New (id : Int) (hid : 0 ≤ id ∧ id < 7) (a : Hrd) (hm : a.log.length ≤ 4294967) (hh : hardB a = true) :
    Ctr Tryz.prog 53 [iv id, .ag a.enc] (.tu [.ag (newR id a).enc, iv 0]) [] := by
 have kc := c_lCheck a (zam (by omega))
 rw [hh, if_pos rfl] at kc
 have hA := za8 hh
 have hs : a.snap.length ≤ 4294967296 := by
  have := hh
  unfold hardB at this
  simp only [Bool.and_eq_true, decide_eq_true_eq] at this
  omega
 have c1 := (zhk a.snap hs).frz (zbq (b := false) (List.Mem.head _) rfl)
 have c2 := (zd8 a.log (by omega)).frz (zbq (b := false) (List.Mem.head _) rfl)
 have kv := zd9 (rNew0 id a) (zam (by show a.log.length ≤ _; omega))
 have kd := zle (zac (rNew0 id a)) id
 refine sBody Tryz.func53 ?_; conv => whnf
 ((try (refine Exists.intro none ?_; conv => whnf)); (with_reducible refine zaa (kc) ?_); conv => whnf)
 (refine tSp (fun h => ?_) (fun h => ?_) <;> conv => whnf)
 ·omega
 (refine tSp (fun h => ?_) (fun h => ?_) <;> conv => whnf)
 ·omega
 ((try (refine Exists.intro none ?_; conv => whnf)); (with_reducible refine zaa (c1) ?_); conv => whnf)
 (refine new0 ?_; conv => whnf)
 ((try (refine Exists.intro none ?_; conv => whnf)); (with_reducible refine zaa (c2) ?_); conv => whnf)
 (refine new0 ?_; conv => whnf)
 ((try ((refine Exists.intro none ?_); (conv => whnf))); refine za9 (kv) (by (repeat' (first | exact za6 | exact za5 | refine zaz ?_ ?_ | refine za0 ?_ ?_ | exact SubV.refl _ | exact zbn | (with_reducible exact zb2 rfl) | refine zby ?_ | refine zb0 ?_ | refine zbz ?_))) ?_; conv => whnf)
 ((try (refine Exists.intro none ?_; conv => whnf)); (with_reducible refine zaa (kd) ?_); conv => whnf)
 refine zaq [] (by intro q hq; cases hq) (zag ⟨zae ?_, zah _ rfl, rfl⟩)
 conv => whnf
 repeat' (refine And.intro ?_ ?_)
 all_goals first | exact True.intro | rfl | (with_reducible exact .inl rfl) | exact .inr (.inl ⟨rfl, rfl⟩) | exact .inl rfl | trace_state
noncomputable def zks (r : Rft) (m : Mg) : List (List PV) := if asked r m = true then [msgV 2 r.id m.frm m.term 0 0 0 0 true .nl cz .nl] else [msgV 2 r.id m.frm r.hard.term 0 0 0 0 false .nl cz .nl]
noncomputable def zi5 (r : Rft) (m : Mg) : List (List PV) := if m.kind = 3 then [msgV 4 r.id m.frm r.hard.term 0 0 0 0 false .nl cz .nl] else if m.kind = 5 ∨ m.kind = 7 then [msgV 6 r.id m.frm r.hard.term 0 0 0 0 false .nl cz .nl] else []
noncomputable abbrev folR (r : Rft) (m : Mg) : Rft := { fallR r r.hard.term m.frm with quiet := 0 }
noncomputable abbrev folM (r : Rft) (m : Mg) (ix : Int) (y : Bool) : List PV := msgV 6 (folR r m).id m.frm (folR r m).hard.term ix 0 0 m.round y .nl cz .nl
theorem zeb (r : Rft) (l : Int) : (fallR r r.hard.term l).hard = r.hard := by unfold fallR; rw [if_neg (by omega)]
theorem c_fallX (r : Rft) (hm : r.hard.log.length ≤ maxLen) (out : List (List PV)) (t l : Int) :
    CtrE Tryz.prog 118 [.pt 1000000 0, iv t, iv l] [(1000000, repI r out)] (obI r out) (.tu [])
     [(1000000, repV (fallR r t l) (snW (fallR r t l) 1000000) (lgW (fallR r t l) 1000001) (rdW (fallR r t l) 2) (.ow 1000003 0 out.length))] [(1000000, snO (fallR r t l)), (1000001, lgO (fallR r t l)), (1000002, rdO r), (1000003, some (false, 16, out)), (2, rdO (fallR r t l))] := by
 have k := c_fall r hm out t l
 unfold snW lgW snO lgO
 rw [zdg, zcn]
 exact k
abbrev setH (r : Rft) (h : Hrd) (c : Int) : Rft := { r with hard := h, commit := c }
noncomputable def appE (r : Rft) (m : Mg) : Int := if r.role = 3 then 0 else growE r.hard r.commit m
noncomputable def appR (r : Rft) (m : Mg) : Rft := if r.role = 3 then r else if growE r.hard r.commit m = 0 then folR (setH r (growO r.hard r.commit m).h (growO r.hard r.commit m).c) m else r
noncomputable def appO (r : Rft) (m : Mg) : List (List PV) := if r.role = 3 then [] else if growE r.hard r.commit m = 0 then [folM (setH r (growO r.hard r.commit m).h (growO r.hard r.commit m).c) m (growO r.hard r.commit m).i (growO r.hard r.commit m).yes] else []
noncomputable abbrev insEE (r : Rft) (m : Mg) : Int := instE r.hard m.index m.logTerm m.conf m.snap
noncomputable abbrev insHH (r : Rft) (m : Mg) : Hrd := instH r.hard m.index m.logTerm m.conf m.snap
noncomputable def insE (r : Rft) (m : Mg) : Int := if r.role = 3 then 0 else if r.commit < m.index then insEE r m else 0
noncomputable def insR (r : Rft) (m : Mg) : Rft := if r.role = 3 then r else if r.commit < m.index then (if insEE r m = 0 then folR (setH r (insHH r m) m.index) m else r) else folR r m
noncomputable def insO (r : Rft) (m : Mg) : List (List PV) := if r.role = 3 then [] else if r.commit < m.index then (if insEE r m = 0 then [folM (setH r (insHH r m) m.index) m m.index true] else []) else [folM r m r.commit true]
abbrev lrnI (r : Rft) (m : Mg) : Int := if lastI r.hard < m.index then lastI r.hard else m.index
abbrev lrnNx (r : Rft) (m : Mg) : Arr := r.next.put m.frm.toNat (nxN (r.next.at m.frm.toNat) (r.mtch.at m.frm.toNat) m.yes (lrnI r m))
abbrev lrnMt (r : Rft) (m : Mg) : Arr := r.mtch.put m.frm.toNat (nxM (r.mtch.at m.frm.toNat) m.yes (lrnI r m))
noncomputable def zcl (r : Rft) (m : Mg) : Rft := if r.role = 3 then { r with silent := r.silent.put m.frm.toNat 0, next := lrnNx r m, mtch := lrnMt r m, reads := r.reads.map (ack1 m.frm m.round), commit := zcu r.hard r.commit (lrnMt r m) } else r
abbrev mkM (m : Mg) (k : Int) : Mg := { m with kind := k }
abbrev mkY (m : Mg) (k : Int) (y : Bool) : Mg := { m with kind := k, yes := y }
noncomputable abbrev vtR (x : Rft) (m : Mg) : Rft := { x with votes := bor x.votes (shl 1 m.frm) }
noncomputable def k2R (x : Rft) (m : Mg) : Rft := if x.role = 1 then (if m.term = x.hard.term + 1 then (if zas (zac (vtR x m)) (vtR x m).votes = true then zed (vtR x m) else vtR x m) else x) else x
noncomputable def k2O (x : Rft) (m : Mg) : List (List PV) := if x.role = 1 then (if m.term = x.hard.term + 1 then (if zas (zac (vtR x m)) (vtR x m).votes = true then zfr (vtR x m) else []) else []) else []
abbrev vdR (x : Rft) (m : Mg) : Rft := { x with hard := { x.hard with vote := m.frm } }
noncomputable def k3R (x : Rft) (m : Mg) : Rft := if voted x m = true then fallR (vdR x m) x.hard.term (-1) else x
noncomputable def k3O (x : Rft) (m : Mg) : List (List PV) := if voted x m = true then [msgV 4 (fallR (vdR x m) x.hard.term (-1)).id m.frm (fallR (vdR x m) x.hard.term (-1)).hard.term 0 0 0 0 true .nl cz .nl] else [msgV 4 x.id m.frm x.hard.term 0 0 0 0 false .nl cz .nl]
noncomputable def k4R (x : Rft) (m : Mg) : Rft := if x.role = 2 then (if zas (zac (vtR x m)) (vtR x m).votes = true then leadR (vtR x m) else vtR x m) else x
noncomputable def k4O (x : Rft) (m : Mg) : List (List PV) := if x.role = 2 then (if zas (zac (vtR x m)) (vtR x m).votes = true then (allL (leadR (vtR x m))).map (zay (leadR (vtR x m))) else []) else []
noncomputable def k8R (x : Rft) (m : Mg) : Rft := if zb1 x = true then (if x.lead = m.frm then zed x else x) else x
noncomputable def k8O (x : Rft) (m : Mg) : List (List PV) := if zb1 x = true then (if x.lead = m.frm then zfr x else []) else []
theorem zdf {r : Rft} (hf : Fit r) {t : Int} (ht : r.hard.term ≤ t ∧ t ≤ 1099511627776) (l : Int) : Fit (fallR r t l) := by
 have hd := zdi (zac r) hf.id
 have hT := hf.term
 have hz : ∀ i, i < 7 → 0 ≤ zA.at i ∧ zA.at i ≤ 1099511627776 := by
  intro i hi
  rcases (by omega : i = 0 ∨ i = 1 ∨ i = 2 ∨ i = 3 ∨ i = 4 ∨ i = 5 ∨ i = 6) with rfl | rfl | rfl | rfl | rfl | rfl | rfl <;> decide
 refine ⟨hf.id, by rw [zcn]; exact hf.log, by rw [zdg]; exact hf.snap, ?_, ?_, hf.round, hf.quiet, ⟨hd.1, Int.le_trans hd.2 (by decide)⟩, hz, hz, Nat.zero_le _⟩
 ·have : (fallR r t l).hard.base = r.hard.base := by unfold fallR; split <;> rfl
  rw [this]; exact hf.base
 ·unfold fallR
  split
  ·show 0 ≤ t ∧ t ≤ 1099511627776; omega
  ·exact hT
theorem zcv {r : Rft} {t : Int} (ht : r.hard.term < t) (l : Int) : (fallR r t l).hard.term = t := by unfold fallR; rw [if_pos ht]
end Go.Proofs
