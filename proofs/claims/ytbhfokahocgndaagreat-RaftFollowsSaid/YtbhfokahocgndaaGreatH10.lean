import Derived.Test.YtbhfokahocgndaaGreatH9
import Derived.Test.YtbhfokahocgndaaGreatC10
import Derived.Test.YtbhfokahocgndaaGreatPvV3
import Derived.Test.YtbhfokahocgndaaGreatC49
/- Contracts of functions: a replica leads. -/
set_option linter.unusedSimpArgs false
set_option linter.unusedVariables false
namespace Go.Proofs
open Go.Pv
set_option maxRecDepth 100000

abbrev farM (n : Int) : Int := if 1099511627776 < n then 1099511627776 else n
abbrev allA (n : Int) : Arr := ⟨n, n, n, n, n, n, n⟩
/-- A leader, ahead of its first entry. -/
abbrev led0 (r : Rft) : Rft := { r with role := 3, lead := r.id, votes := 0, reads := [], quiet := 0, round := farM (r.round + 1), mtch := zA, silent := zA }
noncomputable def leadR (r : Rft) : Rft := { addR (led0 r) (et r.hard.term) with next := allA (lastI (logR r (et r.hard.term))) }
theorem lead_log (r : Rft) : (leadR r).hard.log = r.hard.log ++ [et r.hard.term] := rfl
/-- A replica when all is done: values alone. -/
abbrev repX (x : Rft) (out : List (List PV)) : List PV := repV x (.sl 1 (x.hard.snap.map encB)) (.sl 16 (x.hard.log.map Ent.enc)) (.sl 13 (x.reads.map Rd.enc)) (.sl 16 out)
abbrev obX : List (Nat × Option (Bool × Nat × List (List PV))) := [(1000000, none), (1000001, none), (1000002, none), (1000003, none)]
set_option maxHeartbeats 8000000 in
theorem c_lead (r : Rft) (hid : 0 ≤ r.id ∧ r.id < 7) (hm : r.hard.log.length < 4294967) (hsn : r.hard.snap.length ≤ 4294967296) (hb : 0 ≤ r.hard.base ∧ r.hard.base ≤ 1099511627776) (hr : 0 ≤ r.round ∧ r.round ≤ 1099511627776) (out : List (List PV)) (ho : out.length ≤ 4000000) :
    CtrE Tryz.prog 120 [.pt 1000000 0] [(1000000, repI r out)] (obI r out) (.tu []) [(1000000, repX (leadR r) (out ++ (allL (leadR r)).map (feedRow (leadR r))))] obX := by
  have ka := c_add (led0 r) hid (by show r.hard.log.length ≤ _; omega) hb.1 hb.2 out (et r.hard.term)
  have hlast : lastI (logR r (et r.hard.term)) = r.hard.base + r.hard.log.length + 1 := by
    have h1 : (logR r (et r.hard.term)).log.length = r.hard.log.length + 1 := by rw [List.length_append]; rfl
    unfold lastI
    rw [if_neg (by omega), h1]
    have h2 : (logR r (et r.hard.term)).base = r.hard.base := rfl
    rw [h2]
    have : w64 (r.hard.base + ((r.hard.log.length + 1 : Nat) : Int)) = r.hard.base + ((r.hard.log.length + 1 : Nat) : Int) := wrap_id (by omega) (by omega)
    rw [this]; omega
  have ks := c_sendAll (leadR r) ⟨by rw [lead_log, List.length_append]; show r.hard.log.length + 1 ≤ _; omega, hsn, hb, fun i hi => by
    have : (leadR r).next.at i = lastI (logR r (et r.hard.term)) := by
      rcases (by omega : i = 0 ∨ i = 1 ∨ i = 2 ∨ i = 3 ∨ i = 4 ∨ i = 5 ∨ i = 6) with rfl | rfl | rfl | rfl | rfl | rfl | rfl <;> rfl
    rw [this, hlast]; unfold isI; omega⟩ out ho
  have ew : IntKind.i64.wrap (r.round + 1) = r.round + 1 := wrap_id (by omega) (by omega)
  refine spec_of_triE mixed Tryz.func120 rfl (by kernel_rfl) (by kernel_rfl) ?_
  refine tri_seq mixed (by kernel_rfl) ?_
  conv => whnf
  refine tri_bornB 1000000 39 3000 13 _ rfl rfl rfl ?_
  conv => whnf
  refine pwp_sound mixed _ _ _ (by kernel_rfl) ?_
  conv => whnf
  rw [ew]
  ((refine Exists.intro (some ([(1000000, 1000000)], [(1000000, 1000000), (1000001, 1000001), (1000002, 3000), (1000003, 1000003)], [(1, 4000)])) ?_); (conv => whnf); refine callE_eq (ka) (by kernel_rfl) (by kernel_rfl) (by kernel_rfl) ?_; conv => whnf)
  refine tri_rounds mixed (by kernel_rfl) 9 ?_
  conv => whnf
  refine ⟨⟨by decide, by decide⟩, ?_⟩
  conv => whnf
  refine ⟨⟨by decide, by decide⟩, ?_⟩
  conv => whnf
  refine ⟨⟨by decide, by decide⟩, ?_⟩
  conv => whnf
  refine ⟨⟨by decide, by decide⟩, ?_⟩
  conv => whnf
  refine ⟨⟨by decide, by decide⟩, ?_⟩
  conv => whnf
  refine ⟨⟨by decide, by decide⟩, ?_⟩
  conv => whnf
  refine ⟨⟨by decide, by decide⟩, ?_⟩
  conv => whnf
  ((refine Exists.intro (some ([(1000000, 1000000)], [(1000000, 1000000), (1000001, 4000), (1000002, 3000), (1000003, 1000003)], [(1, 5000)])) ?_); (conv => whnf); refine callE_eq (ks) (by kernel_rfl) (by kernel_rfl) (by kernel_rfl) ?_; conv => whnf)
  (refine exitE_val 1000000 39 3000 _ _ rfl rfl rfl rfl ?_; refine exitE_val 1000000 40 5000 _ _ rfl rfl rfl rfl ?_; refine exitE_of [(1000000, 1000000), (1000001, 1000001), (1000002, 1000002), (1000003, 1000003)] [] ?_; (conv => whnf); (refine And.intro (And.intro (by with_unfolding_all rfl) (by intro q h; cases h)) ?_; refine And.intro ?_ (And.intro ?_ ?_) <;> (conv => whnf) <;> (repeat' (first | exact True.intro | (with_reducible exact rfl) | exact (rfl : List.replicate 0 PV.bad = []) | ((with_reducible refine And.intro ?_ ?_) <;> (first | (with_reducible exact wkV_same _ rfl) | exact wkV_pt rfl rfl | exact wkV_ow rfl rfl rfl | (refine wkV_ow rfl rfl ?_) | (refine wkV_sc (congrArg (Value.int .i64) ?_)) | (refine wkV_sc (congrArg Value.bool ?_)) | exact wkV_ls rfl | ((refine wkV_cl ?_); conv => whnf) | ((refine wkV_tu ?_); conv => whnf) | ((refine wkV_ag ?_); conv => whnf) | (conv => whnf)))))))
  all_goals first | rfl | trace_state
end Go.Proofs

/- Contracts of functions: a replica stands for a vote. -/
namespace Go.Proofs
open Go.Pv
set_option maxRecDepth 100000

/-- What is always so of a replica that moves. -/
structure Fit (r : Rft) : Prop where
  id : 0 ≤ r.id ∧ r.id < 7
  log : r.hard.log.length < 4294967
  snap : r.hard.snap.length ≤ 4294967296
  base : 0 ≤ r.hard.base ∧ r.hard.base ≤ 1099511627776
  term : 0 ≤ r.hard.term ∧ r.hard.term ≤ 1099511627776
  round : 0 ≤ r.round ∧ r.round ≤ 1099511627776
  quiet : 0 ≤ r.quiet ∧ r.quiet ≤ 1099511627776
  wait : 0 ≤ r.wait ∧ r.wait ≤ 1099511627776
  next : ∀ i, i < 7 → 0 ≤ r.next.at i ∧ r.next.at i ≤ 1099511627776
  silent : ∀ i, i < 7 → 0 ≤ r.silent.at i ∧ r.silent.at i ≤ 1099511627776
  reads : r.reads.length ≤ 1000
abbrev std0 (r : Rft) : Rft := { r with hard := { r.hard with term := r.hard.term + 1, vote := r.id }, role := 2, votes := shl 1 r.id, lead := -1 }
/-- It stands. -/
noncomputable abbrev stdR (r : Rft) : Rft := { std0 r with wait := delay (inForce (std0 r)) r.id }
noncomputable def standR (r : Rft) : Rft := if r.hard.term = 1099511627776 then fallR r r.hard.term (-1) else if quorum (inForce (stdR r)) (shl 1 r.id) = true then leadR (stdR r) else stdR r
noncomputable def standO (r : Rft) : List (List PV) := if r.hard.term = 1099511627776 then [] else if quorum (inForce (stdR r)) (shl 1 r.id) = true then (allL (leadR (stdR r))).map (feedRow (leadR (stdR r))) else (votL (stdR r)).map (askM (stdR r) 3 (r.hard.term + 1))
theorem fall_snap (r : Rft) (t l : Int) : (fallR r t l).hard.snap = r.hard.snap := by unfold fallR; split <;> rfl
theorem fall_log (r : Rft) (t l : Int) : (fallR r t l).hard.log = r.hard.log := by unfold fallR; split <;> rfl
set_option maxHeartbeats 8000000 in
theorem c_stand (r : Rft) (hf : Fit r) (out : List (List PV)) (ho : out.length ≤ 4000000) :
    CtrE Tryz.prog 117 [.pt 1000000 0] [(1000000, repI r out)] (obI r out) (.tu []) [(1000000, repX (standR r) (out ++ standO r))] obX := by
  have hm : r.hard.log.length ≤ maxLen := smallM (by have := hf.log; omega)
  have kf := c_fall r hm out r.hard.term (-1)
  have kb := c_bitR { r with hard := { r.hard with term := r.hard.term + 1 } } out hf.id
  have kc := c_vConf (std0 r) hm
  have kd := c_Delay (inForce (std0 r)) r.id
  have kw := c_Wins (stdR r) hm
  have kl := c_lead (stdR r) hf.id hf.log hf.snap hf.base hf.round out ho
  have ka := c_canvass (stdR r) hm out ho 3 (r.hard.term + 1)
  unfold standR standO
  have hT := hf.term
  refine spec_of_bodyE mixed Tryz.func117 rfl (by kernel_rfl) (by kernel_rfl) ?_; conv => whnf
  ((first | (with_reducible refine split_dec (fun h => ?_) (fun h => ?_)) | (with_reducible refine split_beq (fun h => ?_) (fun h => ?_)) | (with_reducible refine split_bne (fun h => ?_) (fun h => ?_)) | (with_reducible refine split_not (fun h => ?_) (fun h => ?_)) | (with_reducible refine split_beqS (fun h => ?_) (fun h => ?_)) | (with_reducible refine split_intro (fun h => ?_) (fun h => ?_))) <;> conv => whnf)
  · have h : r.hard.term = 1099511627776 := h
    rw [if_pos h, if_pos h, List.append_nil]
    ((refine Exists.intro (some ([(1000000, 1000000)], [(1000000, 1000000), (1000001, 1000001), (1000002, 1000002), (1000003, 1000003)], [(2, 3000)])) ?_); (conv => whnf); first | ((with_reducible refine callE_by (kf) ?_); conv => whnf))
    (refine exitE_val 1000000 9 1000000 _ _ rfl rfl rfl rfl ?_; refine exitE_val 1000000 10 1000001 _ _ rfl rfl rfl rfl ?_; refine exitE_val 1000000 39 3000 _ _ rfl rfl rfl rfl ?_; refine exitE_val 1000000 40 1000003 _ _ rfl rfl rfl rfl ?_; refine exitE_of [(1000000, 1000000), (1000001, 1000001), (1000002, 1000002), (1000003, 1000003)] [] ?_; (conv => whnf); (refine And.intro (And.intro (by with_unfolding_all rfl) (by intro q h; cases h)) ?_; refine And.intro ?_ (And.intro ?_ ?_) <;> (conv => whnf) <;> (repeat' (first | exact True.intro | (with_reducible exact rfl) | exact (rfl : List.replicate 0 PV.bad = []) | ((with_reducible refine And.intro ?_ ?_) <;> (first | (with_reducible exact wkV_same _ rfl) | exact wkV_pt rfl rfl | exact wkV_ow rfl rfl rfl | (refine wkV_ow rfl rfl ?_) | (refine wkV_sc (congrArg (Value.int .i64) ?_)) | (refine wkV_sc (congrArg Value.bool ?_)) | exact wkV_ls rfl | ((refine wkV_cl ?_); conv => whnf) | ((refine wkV_tu ?_); conv => whnf) | ((refine wkV_ag ?_); conv => whnf) | (conv => whnf)))))))
    all_goals first | rfl | exact .inl rfl | (rw [fall_snap]; exact .inl rfl) | (rw [fall_log]; exact .inl rfl) | trace_state
  · have h : ¬ r.hard.term = 1099511627776 := h
    rw [if_neg h, if_neg h]
    have ew : IntKind.i64.wrap (r.hard.term + 1) = r.hard.term + 1 := wrap_id (by omega) (by omega)
    rw [ew]
    conv => whnf
    ((refine Exists.intro (some ([(1000000, 1000000)], [(1000000, 1000000), (1000001, 1000001), (1000002, 1000002), (1000003, 1000003)], [(999999, 0)])) ?_); (conv => whnf); (with_reducible refine callE_by (kb) ?_); (conv => whnf); refine And.intro (And.intro rfl rfl) ?_; conv => whnf)
    ((try ((refine Exists.intro none ?_); (conv => whnf))); (first | (with_reducible refine And.intro (Nat.le_of_eq (Nat.zero_add _)) ?_) | (refine And.intro (by simp only [List.length_map, List.length_set, Nat.zero_add]; omega) ?_)); conv => whnf)
    ((try ((refine Exists.intro none ?_); (conv => whnf))); (first | (with_reducible refine And.intro (Nat.le_of_eq (Nat.zero_add _)) ?_) | (refine And.intro (by simp only [List.length_map, List.length_set, Nat.zero_add]; omega) ?_)); conv => whnf)
    ((try ((refine Exists.intro none ?_); (conv => whnf))); (first | (with_reducible refine And.intro (Nat.le_of_eq (Nat.zero_add _)) ?_) | (refine And.intro (by simp only [List.length_map, List.length_set, Nat.zero_add]; omega) ?_)); conv => whnf)
    ((try ((refine Exists.intro none ?_); (conv => whnf))); first | (refine call_eq (kc) (by simp only [List.drop_zero, List.take_length]) ?_; conv => whnf))
    ((try ((refine Exists.intro none ?_); (conv => whnf))); first | ((with_reducible refine call_by (kd) ?_); conv => whnf))
    ((try ((refine Exists.intro none ?_); (conv => whnf))); (first | (with_reducible refine And.intro (Nat.le_of_eq (Nat.zero_add _)) ?_) | (refine And.intro (by simp only [List.length_map, List.length_set, Nat.zero_add]; omega) ?_)); conv => whnf)
    ((try ((refine Exists.intro none ?_); (conv => whnf))); (first | (with_reducible refine And.intro (Nat.le_of_eq (Nat.zero_add _)) ?_) | (refine And.intro (by simp only [List.length_map, List.length_set, Nat.zero_add]; omega) ?_)); conv => whnf)
    ((try ((refine Exists.intro none ?_); (conv => whnf))); (first | (with_reducible refine And.intro (Nat.le_of_eq (Nat.zero_add _)) ?_) | (refine And.intro (by simp only [List.length_map, List.length_set, Nat.zero_add]; omega) ?_)); conv => whnf)
    cases hq : quorum (inForce (stdR r)) (shl 1 r.id) with
    | true =>
      rw [if_pos rfl, if_pos rfl]
      have kw := kw
      rw [show quorum (inForce (stdR r)) (stdR r).votes = true from hq] at kw
      ((try ((refine Exists.intro none ?_); (conv => whnf))); first | (refine call_eq (kw) (by simp only [List.drop_zero, List.take_length]) ?_; conv => whnf))
      ((refine Exists.intro (some ([(1000000, 1000000)], [(1000000, 1000000), (1000001, 1000001), (1000002, 1000002), (1000003, 1000003)], [])) ?_); (conv => whnf); first | ((with_reducible refine callE_by (kl) ?_); conv => whnf))
      (refine exitE_of [(1000000, 1000000), (1000001, 1000001), (1000002, 1000002), (1000003, 1000003)] [] ?_; (conv => whnf); (refine And.intro (And.intro (by with_unfolding_all rfl) (by intro q h; cases h)) ?_; refine And.intro ?_ (And.intro ?_ ?_) <;> (conv => whnf) <;> (repeat' (first | exact True.intro | (with_reducible exact rfl) | exact (rfl : List.replicate 0 PV.bad = []) | ((with_reducible refine And.intro ?_ ?_) <;> (first | (with_reducible exact wkV_same _ rfl) | exact wkV_pt rfl rfl | exact wkV_ow rfl rfl rfl | (refine wkV_ow rfl rfl ?_) | (refine wkV_sc (congrArg (Value.int .i64) ?_)) | (refine wkV_sc (congrArg Value.bool ?_)) | exact wkV_ls rfl | ((refine wkV_cl ?_); conv => whnf) | ((refine wkV_tu ?_); conv => whnf) | ((refine wkV_ag ?_); conv => whnf) | (conv => whnf)))))))
      all_goals first | rfl | exact .inl rfl | (rw [fall_snap]; exact .inl rfl) | (rw [fall_log]; exact .inl rfl) | trace_state
    | false =>
      rw [if_neg (by decide), if_neg (by decide)]
      have kw := kw
      rw [show quorum (inForce (stdR r)) (stdR r).votes = false from hq] at kw
      ((try ((refine Exists.intro none ?_); (conv => whnf))); first | (refine call_eq (kw) (by simp only [List.drop_zero, List.take_length]) ?_; conv => whnf))
      ((refine Exists.intro (some ([(1000000, 1000000)], [(1000000, 1000000), (1000001, 1000001), (1000002, 1000002), (1000003, 1000003)], [(1, 4000)])) ?_); (conv => whnf); first | ((with_reducible refine callE_by (ka) ?_); conv => whnf))
      (refine exitE_val 1000000 9 1000000 _ _ rfl rfl rfl rfl ?_; refine exitE_val 1000000 10 1000001 _ _ rfl rfl rfl rfl ?_; refine exitE_val 1000000 39 1000002 _ _ rfl rfl rfl rfl ?_; refine exitE_val 1000000 40 4000 _ _ rfl rfl rfl rfl ?_; refine exitE_of [(1000000, 1000000), (1000001, 1000001), (1000002, 1000002), (1000003, 1000003)] [] ?_; (conv => whnf); (refine And.intro (And.intro (by with_unfolding_all rfl) (by intro q h; cases h)) ?_; refine And.intro ?_ (And.intro ?_ ?_) <;> (conv => whnf) <;> (repeat' (first | exact True.intro | (with_reducible exact rfl) | exact (rfl : List.replicate 0 PV.bad = []) | ((with_reducible refine And.intro ?_ ?_) <;> (first | (with_reducible exact wkV_same _ rfl) | exact wkV_pt rfl rfl | exact wkV_ow rfl rfl rfl | (refine wkV_ow rfl rfl ?_) | (refine wkV_sc (congrArg (Value.int .i64) ?_)) | (refine wkV_sc (congrArg Value.bool ?_)) | exact wkV_ls rfl | ((refine wkV_cl ?_); conv => whnf) | ((refine wkV_tu ?_); conv => whnf) | ((refine wkV_ag ?_); conv => whnf) | (conv => whnf)))))))
      all_goals first | rfl | exact .inl rfl | (rw [fall_snap]; exact .inl rfl) | (rw [fall_log]; exact .inl rfl) | trace_state
end Go.Proofs

/- Contracts of functions: a tick of a replica that does not lead. -/
namespace Go.Proofs
open Go.Pv
set_option maxRecDepth 100000

/-- It is quiet for one tick more. -/
abbrev tq (r : Rft) : Rft := { r with quiet := farM (r.quiet + 1) }
abbrev zeroM (n : Int) : Int := if 0 > n then 0 else n
abbrev tw (r : Rft) : Rft := { tq r with wait := zeroM (r.wait - 1) }
abbrev ta (r : Rft) : Rft := { tw r with role := 1, lead := -1, votes := shl 1 r.id }
noncomputable abbrev taR (r : Rft) : Rft := { ta r with wait := delay (inForce (ta r)) r.id }
noncomputable abbrev isVoter (r : Rft) : Bool := bitB (bor (inForce r).full (inForce r).wit) r.id
noncomputable def tickR (r : Rft) : Rft :=
  if isVoter r = false then tq r else if 0 < zeroM (r.wait - 1) then tw r else
  if quorum (inForce (taR r)) (shl 1 r.id) = true then standR (taR r) else taR r
noncomputable def tickO (r : Rft) : List (List PV) :=
  if isVoter r = false then [] else if 0 < zeroM (r.wait - 1) then [] else
  if quorum (inForce (taR r)) (shl 1 r.id) = true then standO (taR r) else if r.hard.term < 1099511627776 then (votL (taR r)).map (askM (taR r) 1 (r.hard.term + 1)) else []
theorem delay_fit (c : Conf) {i : Int} (h : 0 ≤ i ∧ i < 7) : 0 ≤ delay c i ∧ delay c i ≤ 32 := by
  unfold delay
  have e1 : IntKind.i64.wrap (2 * i) = 2 * i := wrap_id (by omega) (by omega)
  have e2 : IntKind.i64.wrap (7 + i) = 7 + i := wrap_id (by omega) (by omega)
  have e3 : IntKind.i64.wrap (2 * (7 + i)) = 2 * (7 + i) := wrap_id (by omega) (by omega)
  have e4 : IntKind.i64.wrap (6 + 2 * i) = 6 + 2 * i := wrap_id (by omega) (by omega)
  have e5 : IntKind.i64.wrap (6 + 2 * (7 + i)) = 6 + 2 * (7 + i) := wrap_id (by omega) (by omega)
  rw [e1, e2, e3, e4, e5]
  split
  · omega
  · split <;> omega
set_option maxHeartbeats 8000000 in
theorem c_tick (r : Rft) (hf : Fit r) (out : List (List PV)) (ho : out.length ≤ 4000000) :
    CtrE Tryz.prog 79 [.pt 1000000 0] [(1000000, repI r out)] (obI r out) (.tu []) [(1000000, repX (tickR r) (out ++ tickO r))] obX := by
  have hm : r.hard.log.length ≤ maxLen := smallM (by have := hf.log; omega)
  have kv := c_Voter (tq r) hm
  have kb := c_bitR (tw r) out hf.id
  have kc := c_vConf (ta r) hm
  have kd := c_Delay (inForce (ta r)) r.id
  have kw := c_Wins (taR r) hm
  have hq1 : 0 ≤ farM (r.quiet + 1) ∧ farM (r.quiet + 1) ≤ 1099511627776 := by have := hf.quiet; unfold farM; split <;> omega
  have kst := c_stand (taR r) { id := hf.id, log := hf.log, snap := hf.snap, base := hf.base, term := hf.term, round := hf.round, quiet := hq1, wait := by have := delay_fit (inForce (ta r)) hf.id; show 0 ≤ delay (inForce (ta r)) r.id ∧ delay (inForce (ta r)) r.id ≤ 1099511627776; omega, next := hf.next, silent := hf.silent, reads := hf.reads } out ho
  have kca := c_canvass (taR r) hm out ho 1 (r.hard.term + 1)
  have hT := hf.term
  have hQ := hf.quiet
  have hW := hf.wait
  have ew1 : IntKind.i64.wrap (r.quiet + 1) = r.quiet + 1 := wrap_id (by omega) (by omega)
  have ew2 : IntKind.i64.wrap (r.wait - 1) = r.wait - 1 := wrap_id (by omega) (by omega)
  have ew3 : IntKind.i64.wrap (r.hard.term + 1) = r.hard.term + 1 := wrap_id (by omega) (by omega)
  unfold tickR tickO
  refine spec_of_bodyE mixed Tryz.func79 rfl (by kernel_rfl) (by kernel_rfl) ?_; conv => whnf
  rw [ew1]
  conv => whnf
  ((try ((refine Exists.intro none ?_); (conv => whnf))); (first | (with_reducible refine And.intro (Nat.le_of_eq (Nat.zero_add _)) ?_) | (refine And.intro (by simp only [List.length_map, List.length_set, Nat.zero_add]; omega) ?_)); conv => whnf)
  ((try ((refine Exists.intro none ?_); (conv => whnf))); (first | (with_reducible refine And.intro (Nat.le_of_eq (Nat.zero_add _)) ?_) | (refine And.intro (by simp only [List.length_map, List.length_set, Nat.zero_add]; omega) ?_)); conv => whnf)
  ((try ((refine Exists.intro none ?_); (conv => whnf))); (first | (with_reducible refine And.intro (Nat.le_of_eq (Nat.zero_add _)) ?_) | (refine And.intro (by simp only [List.length_map, List.length_set, Nat.zero_add]; omega) ?_)); conv => whnf)
  cases hv : isVoter r with
  | false =>
    rw [if_pos rfl, if_pos rfl, List.append_nil]
    rw [show bitB (bor (inForce (tq r)).full (inForce (tq r)).wit) (tq r).id = false from hv] at kv
    ((try ((refine Exists.intro none ?_); (conv => whnf))); first | (refine call_eq (kv) (by simp only [List.drop_zero, List.take_length]) ?_; conv => whnf))
    (refine exitE_val 1000000 9 1000000 _ _ rfl rfl rfl rfl ?_; refine exitE_val 1000000 10 1000001 _ _ rfl rfl rfl rfl ?_; refine exitE_val 1000000 39 1000002 _ _ rfl rfl rfl rfl ?_; refine exitE_val 1000000 40 1000003 _ _ rfl rfl rfl rfl ?_; refine exitE_of [(1000000, 1000000), (1000001, 1000001), (1000002, 1000002), (1000003, 1000003)] [] ?_; (conv => whnf); (refine And.intro (And.intro (by with_unfolding_all rfl) (by intro q h; cases h)) ?_; refine And.intro ?_ (And.intro ?_ ?_) <;> (conv => whnf) <;> (repeat' (first | exact True.intro | (with_reducible exact rfl) | exact (rfl : List.replicate 0 PV.bad = []) | ((with_reducible refine And.intro ?_ ?_) <;> (first | (with_reducible exact wkV_same _ rfl) | exact wkV_pt rfl rfl | exact wkV_ow rfl rfl rfl | (refine wkV_ow rfl rfl ?_) | (refine wkV_sc (congrArg (Value.int .i64) ?_)) | (refine wkV_sc (congrArg Value.bool ?_)) | exact wkV_ls rfl | ((refine wkV_cl ?_); conv => whnf) | ((refine wkV_tu ?_); conv => whnf) | ((refine wkV_ag ?_); conv => whnf) | (conv => whnf)))))))
    all_goals first | rfl | exact .inl rfl | trace_state
  | true =>
    rw [if_neg (show ¬ true = false by decide), if_neg (show ¬ true = false by decide)]
    rw [show bitB (bor (inForce (tq r)).full (inForce (tq r)).wit) (tq r).id = true from hv] at kv
    ((try ((refine Exists.intro none ?_); (conv => whnf))); first | (refine call_eq (kv) (by simp only [List.drop_zero, List.take_length]) ?_; conv => whnf))
    rw [ew2]
    conv => whnf
    ((first | (with_reducible refine split_dec (fun h => ?_) (fun h => ?_)) | (with_reducible refine split_beq (fun h => ?_) (fun h => ?_)) | (with_reducible refine split_bne (fun h => ?_) (fun h => ?_)) | (with_reducible refine split_not (fun h => ?_) (fun h => ?_)) | (with_reducible refine split_beqS (fun h => ?_) (fun h => ?_)) | (with_reducible refine split_intro (fun h => ?_) (fun h => ?_))) <;> conv => whnf)
    · have h : 0 < zeroM (r.wait - 1) := h
      rw [if_pos h, if_pos h, List.append_nil]
      (refine exitE_val 1000000 9 1000000 _ _ rfl rfl rfl rfl ?_; refine exitE_val 1000000 10 1000001 _ _ rfl rfl rfl rfl ?_; refine exitE_val 1000000 39 1000002 _ _ rfl rfl rfl rfl ?_; refine exitE_val 1000000 40 1000003 _ _ rfl rfl rfl rfl ?_; refine exitE_of [(1000000, 1000000), (1000001, 1000001), (1000002, 1000002), (1000003, 1000003)] [] ?_; (conv => whnf); (refine And.intro (And.intro (by with_unfolding_all rfl) (by intro q h; cases h)) ?_; refine And.intro ?_ (And.intro ?_ ?_) <;> (conv => whnf) <;> (repeat' (first | exact True.intro | (with_reducible exact rfl) | exact (rfl : List.replicate 0 PV.bad = []) | ((with_reducible refine And.intro ?_ ?_) <;> (first | (with_reducible exact wkV_same _ rfl) | exact wkV_pt rfl rfl | exact wkV_ow rfl rfl rfl | (refine wkV_ow rfl rfl ?_) | (refine wkV_sc (congrArg (Value.int .i64) ?_)) | (refine wkV_sc (congrArg Value.bool ?_)) | exact wkV_ls rfl | ((refine wkV_cl ?_); conv => whnf) | ((refine wkV_tu ?_); conv => whnf) | ((refine wkV_ag ?_); conv => whnf) | (conv => whnf)))))))
      all_goals first | rfl | exact .inl rfl | trace_state
    · have h : ¬ 0 < zeroM (r.wait - 1) := h
      rw [if_neg h, if_neg h]
      ((refine Exists.intro (some ([(1000000, 1000000)], [(1000000, 1000000), (1000001, 1000001), (1000002, 1000002), (1000003, 1000003)], [(999999, 0)])) ?_); (conv => whnf); (with_reducible refine callE_by (kb) ?_); (conv => whnf); refine And.intro (And.intro rfl rfl) ?_; conv => whnf)
      ((try ((refine Exists.intro none ?_); (conv => whnf))); (first | (with_reducible refine And.intro (Nat.le_of_eq (Nat.zero_add _)) ?_) | (refine And.intro (by simp only [List.length_map, List.length_set, Nat.zero_add]; omega) ?_)); conv => whnf)
      ((try ((refine Exists.intro none ?_); (conv => whnf))); (first | (with_reducible refine And.intro (Nat.le_of_eq (Nat.zero_add _)) ?_) | (refine And.intro (by simp only [List.length_map, List.length_set, Nat.zero_add]; omega) ?_)); conv => whnf)
      ((try ((refine Exists.intro none ?_); (conv => whnf))); (first | (with_reducible refine And.intro (Nat.le_of_eq (Nat.zero_add _)) ?_) | (refine And.intro (by simp only [List.length_map, List.length_set, Nat.zero_add]; omega) ?_)); conv => whnf)
      ((try ((refine Exists.intro none ?_); (conv => whnf))); first | (refine call_eq (kc) (by simp only [List.drop_zero, List.take_length]) ?_; conv => whnf))
      ((try ((refine Exists.intro none ?_); (conv => whnf))); first | ((with_reducible refine call_by (kd) ?_); conv => whnf))
      ((try ((refine Exists.intro none ?_); (conv => whnf))); (first | (with_reducible refine And.intro (Nat.le_of_eq (Nat.zero_add _)) ?_) | (refine And.intro (by simp only [List.length_map, List.length_set, Nat.zero_add]; omega) ?_)); conv => whnf)
      ((try ((refine Exists.intro none ?_); (conv => whnf))); (first | (with_reducible refine And.intro (Nat.le_of_eq (Nat.zero_add _)) ?_) | (refine And.intro (by simp only [List.length_map, List.length_set, Nat.zero_add]; omega) ?_)); conv => whnf)
      ((try ((refine Exists.intro none ?_); (conv => whnf))); (first | (with_reducible refine And.intro (Nat.le_of_eq (Nat.zero_add _)) ?_) | (refine And.intro (by simp only [List.length_map, List.length_set, Nat.zero_add]; omega) ?_)); conv => whnf)
      cases hq : quorum (inForce (taR r)) (shl 1 r.id) with
      | true =>
        rw [if_pos rfl, if_pos rfl]
        have kw := kw
        rw [show quorum (inForce (taR r)) (taR r).votes = true from hq] at kw
        ((try ((refine Exists.intro none ?_); (conv => whnf))); first | (refine call_eq (kw) (by simp only [List.drop_zero, List.take_length]) ?_; conv => whnf))
        ((refine Exists.intro (some ([(1000000, 1000000)], [(1000000, 1000000), (1000001, 1000001), (1000002, 1000002), (1000003, 1000003)], [])) ?_); (conv => whnf); first | ((with_reducible refine callE_by (kst) ?_); conv => whnf))
        (refine exitE_of [(1000000, 1000000), (1000001, 1000001), (1000002, 1000002), (1000003, 1000003)] [] ?_; (conv => whnf); (refine And.intro (And.intro (by with_unfolding_all rfl) (by intro q h; cases h)) ?_; refine And.intro ?_ (And.intro ?_ ?_) <;> (conv => whnf) <;> (repeat' (first | exact True.intro | (with_reducible exact rfl) | exact (rfl : List.replicate 0 PV.bad = []) | ((with_reducible refine And.intro ?_ ?_) <;> (first | (with_reducible exact wkV_same _ rfl) | exact wkV_pt rfl rfl | exact wkV_ow rfl rfl rfl | (refine wkV_ow rfl rfl ?_) | (refine wkV_sc (congrArg (Value.int .i64) ?_)) | (refine wkV_sc (congrArg Value.bool ?_)) | exact wkV_ls rfl | ((refine wkV_cl ?_); conv => whnf) | ((refine wkV_tu ?_); conv => whnf) | ((refine wkV_ag ?_); conv => whnf) | (conv => whnf)))))))
        all_goals first | rfl | trace_state
      | false =>
        rw [if_neg (show ¬ false = true by decide), if_neg (show ¬ false = true by decide)]
        have kw := kw
        rw [show quorum (inForce (taR r)) (taR r).votes = false from hq] at kw
        ((try ((refine Exists.intro none ?_); (conv => whnf))); first | (refine call_eq (kw) (by simp only [List.drop_zero, List.take_length]) ?_; conv => whnf))
        ((first | (with_reducible refine split_dec (fun h => ?_) (fun h => ?_)) | (with_reducible refine split_beq (fun h => ?_) (fun h => ?_)) | (with_reducible refine split_bne (fun h => ?_) (fun h => ?_)) | (with_reducible refine split_not (fun h => ?_) (fun h => ?_)) | (with_reducible refine split_beqS (fun h => ?_) (fun h => ?_)) | (with_reducible refine split_intro (fun h => ?_) (fun h => ?_))) <;> conv => whnf)
        · have h : r.hard.term < 1099511627776 := h
          rw [if_pos h]
          rw [ew3]
          conv => whnf
          ((refine Exists.intro (some ([(1000000, 1000000)], [(1000000, 1000000), (1000001, 1000001), (1000002, 1000002), (1000003, 1000003)], [(1, 4000)])) ?_); (conv => whnf); first | ((with_reducible refine callE_by (kca) ?_); conv => whnf))
          (refine exitE_val 1000000 9 1000000 _ _ rfl rfl rfl rfl ?_; refine exitE_val 1000000 10 1000001 _ _ rfl rfl rfl rfl ?_; refine exitE_val 1000000 39 1000002 _ _ rfl rfl rfl rfl ?_; refine exitE_val 1000000 40 4000 _ _ rfl rfl rfl rfl ?_; refine exitE_of [(1000000, 1000000), (1000001, 1000001), (1000002, 1000002), (1000003, 1000003)] [] ?_; (conv => whnf); (refine And.intro (And.intro (by with_unfolding_all rfl) (by intro q h; cases h)) ?_; refine And.intro ?_ (And.intro ?_ ?_) <;> (conv => whnf) <;> (repeat' (first | exact True.intro | (with_reducible exact rfl) | exact (rfl : List.replicate 0 PV.bad = []) | ((with_reducible refine And.intro ?_ ?_) <;> (first | (with_reducible exact wkV_same _ rfl) | exact wkV_pt rfl rfl | exact wkV_ow rfl rfl rfl | (refine wkV_ow rfl rfl ?_) | (refine wkV_sc (congrArg (Value.int .i64) ?_)) | (refine wkV_sc (congrArg Value.bool ?_)) | exact wkV_ls rfl | ((refine wkV_cl ?_); conv => whnf) | ((refine wkV_tu ?_); conv => whnf) | ((refine wkV_ag ?_); conv => whnf) | (conv => whnf)))))))
          all_goals first | rfl | exact .inl rfl | trace_state
        · have h : ¬ r.hard.term < 1099511627776 := h
          rw [if_neg h, List.append_nil]
          (refine exitE_val 1000000 9 1000000 _ _ rfl rfl rfl rfl ?_; refine exitE_val 1000000 10 1000001 _ _ rfl rfl rfl rfl ?_; refine exitE_val 1000000 39 1000002 _ _ rfl rfl rfl rfl ?_; refine exitE_val 1000000 40 1000003 _ _ rfl rfl rfl rfl ?_; refine exitE_of [(1000000, 1000000), (1000001, 1000001), (1000002, 1000002), (1000003, 1000003)] [] ?_; (conv => whnf); (refine And.intro (And.intro (by with_unfolding_all rfl) (by intro q h; cases h)) ?_; refine And.intro ?_ (And.intro ?_ ?_) <;> (conv => whnf) <;> (repeat' (first | exact True.intro | (with_reducible exact rfl) | exact (rfl : List.replicate 0 PV.bad = []) | ((with_reducible refine And.intro ?_ ?_) <;> (first | (with_reducible exact wkV_same _ rfl) | exact wkV_pt rfl rfl | exact wkV_ow rfl rfl rfl | (refine wkV_ow rfl rfl ?_) | (refine wkV_sc (congrArg (Value.int .i64) ?_)) | (refine wkV_sc (congrArg Value.bool ?_)) | exact wkV_ls rfl | ((refine wkV_cl ?_); conv => whnf) | ((refine wkV_tu ?_); conv => whnf) | ((refine wkV_ag ?_); conv => whnf) | (conv => whnf)))))))
          all_goals first | rfl | exact .inl rfl | trace_state
end Go.Proofs

/- Contracts of functions: a tick of a right replica that does not lead. -/
namespace Go.Proofs
open Go.Pv
set_option maxRecDepth 100000

theorem inR_of {g x : Int} (h : inR g x = true) : 0 ≤ x ∧ x ≤ g := of_decide_eq_true h
theorem arrR_of {g : Int} {a : Arr} (h : arrR g a = true) : ∀ i, i < 7 → 0 ≤ a.at i ∧ a.at i ≤ g := by
  unfold arrR at h
  simp only [Bool.and_eq_true] at h
  obtain ⟨h0, h1, h2, h3, h4, h5, h6⟩ := h
  intro i hi
  rcases (by omega : i = 0 ∨ i = 1 ∨ i = 2 ∨ i = 3 ∨ i = 4 ∨ i = 5 ∨ i = 6) with rfl | rfl | rfl | rfl | rfl | rfl | rfl
  · exact inR_of h0
  · exact inR_of h1
  · exact inR_of h2
  · exact inR_of h3
  · exact inR_of h4
  · exact inR_of h5
  · exact inR_of h6
/-- What a right replica has. -/
structure Rgt (r : Rft) : Prop where
  hard : hardB r.hard = true
  id : 0 ≤ r.id ∧ r.id < 7
  com : r.hard.base ≤ r.commit ∧ r.commit ≤ lastI r.hard
  role : 0 ≤ r.role ∧ r.role ≤ 3
  lead : -1 ≤ r.lead ∧ r.lead < 7
  wait : 0 ≤ r.wait ∧ r.wait ≤ 100
  quiet : 0 ≤ r.quiet ∧ r.quiet ≤ 1099511627776
  round : 0 ≤ r.round ∧ r.round ≤ 1099511627776
  votes : 0 ≤ r.votes ∧ r.votes ≤ 127
  next : ∀ i, i < 7 → 0 ≤ r.next.at i ∧ r.next.at i ≤ 1099511627776
  mtch : ∀ i, i < 7 → 0 ≤ r.mtch.at i ∧ r.mtch.at i ≤ lastI r.hard
  silent : ∀ i, i < 7 → 0 ≤ r.silent.at i ∧ r.silent.at i ≤ 1099511627776
  reads : rdsB r = true
  own : r.role = 3 → r.lead = r.id
theorem rgt_of {r : Rft} (h : rightB r = true) : Rgt r := by
  unfold rightB at h
  simp only [Bool.and_eq_true, decide_eq_true_eq] at h
  obtain ⟨h1, h2, h3, h4, h5, h6, h7, h8, ⟨h9, h10⟩, h11, h12, h13, h14, h15, h16⟩ := h
  have h2 := inR_of h2
  exact ⟨h1, by omega, ⟨h3, h4⟩, inR_of h5, ⟨h6, h7⟩, inR_of h8, inR_of h9, inR_of h10, inR_of h11, arrR_of h12, arrR_of h13, arrR_of h14, h15, fun e => by rw [if_pos e] at h16; exact of_decide_eq_true h16⟩
theorem Rgt.fit {r : Rft} (h : Rgt r) (hm : r.hard.log.length < 4294967) : Fit r := by
  have hA := hardB_A h.hard
  refine ⟨h.id, hm, ?_, hA.1.b, hA.1.t, h.round, h.quiet, ⟨h.wait.1, by have := h.wait.2; omega⟩, h.next, h.silent, ?_⟩
  · have := h.hard
    unfold hardB at this
    simp only [Bool.and_eq_true, decide_eq_true_eq] at this
    omega
  · have := h.reads
    unfold rdsB at this
    split at this
    · cases this
    · omega
set_option maxHeartbeats 4000000 in
theorem c_Tick (r : Rft) (hr : rightB r = true) (hm : r.hard.log.length < 4294967) (hn : r.role ≠ 3) :
    Ctr Tryz.prog 30 [.ag r.enc] (.tu [.ag (tickR r).enc, .sl 16 (tickO r), iv 0]) [] := by
  have hg := rgt_of hr
  have hf := hg.fit hm
  have ko := c_of r hf.snap (by omega) (by have := hf.reads; omega) hr
  have kt := c_tick r hf [] (by decide)
  refine spec_of_body mixed Tryz.func30 rfl (by kernel_rfl) (by kernel_rfl) ?_; conv => whnf
  ((refine Exists.intro (some ([(28, 500)], [], [(0, 600), (1, 601), (2, 602), (3, 603)])) ?_); (conv => whnf); first | ((with_reducible refine callE_by (ko) ?_); conv => whnf))
  ((first | (with_reducible refine split_dec (fun h => ?_) (fun h => ?_)) | (with_reducible refine split_beq (fun h => ?_) (fun h => ?_)) | (with_reducible refine split_bne (fun h => ?_) (fun h => ?_)) | (with_reducible refine split_not (fun h => ?_) (fun h => ?_)) | (with_reducible refine split_beqS (fun h => ?_) (fun h => ?_)) | (with_reducible refine split_intro (fun h => ?_) (fun h => ?_))) <;> conv => whnf)
  · exact absurd h hn
  · ((refine Exists.intro (some ([(1000000, 500)], [(1000000, 600), (1000001, 601), (1000002, 602), (1000003, 603)], [])) ?_); (conv => whnf); refine callE_eq (kt) (by kernel_rfl) (by kernel_rfl) (by kernel_rfl) ?_; conv => whnf)
    exact exit_plain rfl rfl
/-- A new replica. -/
noncomputable abbrev new0 (id : Int) (h : Hrd) : Rft := ⟨id, h, h.base, 0, -1, 0, 0, 0, 0, zA, zA, zA, []⟩
noncomputable abbrev newR (id : Int) (h : Hrd) : Rft := { new0 id h with wait := delay (inForce (new0 id h)) id }
set_option maxHeartbeats 4000000 in
theorem c_New (id : Int) (hid : 0 ≤ id ∧ id < 7) (a : Hrd) (hm : a.log.length ≤ 4294967) (hh : hardB a = true) :
    Ctr Tryz.prog 26 [iv id, .ag a.enc] (.tu [.ag (newR id a).enc, iv 0]) [] := by
  have kc := c_lCheck a (smallM (by omega))
  rw [hh, if_pos rfl] at kc
  have hA := hardB_A hh
  have hs : a.snap.length ≤ 4294967296 := by
    have := hh
    unfold hardB at this
    simp only [Bool.and_eq_true, decide_eq_true_eq] at this
    omega
  have c1 := (c_CloneBytes a.snap hs).frz (wkV_fz (b := false) (List.Mem.head _) rfl)
  have c2 := (c_CloneEntries a.log (by omega)).frz (wkV_fz (b := false) (List.Mem.head _) rfl)
  have kv := c_vConf (new0 id a) (smallM (by show a.log.length ≤ _; omega))
  have kd := c_Delay (inForce (new0 id a)) id
  refine spec_of_body mixed Tryz.func26 rfl (by kernel_rfl) (by kernel_rfl) ?_; conv => whnf
  ((try ((refine Exists.intro none ?_); (conv => whnf))); first | ((with_reducible refine call_by (kc) ?_); conv => whnf))
  ((first | (with_reducible refine split_dec (fun h => ?_) (fun h => ?_)) | (with_reducible refine split_beq (fun h => ?_) (fun h => ?_)) | (with_reducible refine split_bne (fun h => ?_) (fun h => ?_)) | (with_reducible refine split_not (fun h => ?_) (fun h => ?_)) | (with_reducible refine split_beqS (fun h => ?_) (fun h => ?_)) | (with_reducible refine split_intro (fun h => ?_) (fun h => ?_))) <;> conv => whnf)
  · omega
  ((first | (with_reducible refine split_dec (fun h => ?_) (fun h => ?_)) | (with_reducible refine split_beq (fun h => ?_) (fun h => ?_)) | (with_reducible refine split_bne (fun h => ?_) (fun h => ?_)) | (with_reducible refine split_not (fun h => ?_) (fun h => ?_)) | (with_reducible refine split_beqS (fun h => ?_) (fun h => ?_)) | (with_reducible refine split_intro (fun h => ?_) (fun h => ?_))) <;> conv => whnf)
  · omega
  ((try ((refine Exists.intro none ?_); (conv => whnf))); first | ((with_reducible refine call_by (c1) ?_); conv => whnf))
  (refine Exists.intro _ (And.intro rfl (And.intro (by intro q _; simp only [List.length_nil]; omega) (And.intro (by intro i hi; exact absurd hi (Nat.not_lt_zero i)) ?_))); conv => whnf)
  ((try ((refine Exists.intro none ?_); (conv => whnf))); first | ((with_reducible refine call_by (c2) ?_); conv => whnf))
  (refine Exists.intro _ (And.intro rfl (And.intro (by intro q _; simp only [List.length_nil]; omega) (And.intro (by intro i hi; exact absurd hi (Nat.not_lt_zero i)) ?_))); conv => whnf)
  ((try ((refine Exists.intro none ?_); (conv => whnf))); refine call_deep (kv) (by (repeat' (first | exact subVL_nil | exact subVR_nil | refine subVL_cons ?_ ?_ | refine subVR_cons ?_ ?_ | exact SubV.refl _ | exact subV_nl | (with_reducible exact subV_tk rfl) | refine subV_ag ?_ | refine subV_sl ?_ | refine subV_ep ?_))) ?_; conv => whnf)
  ((try ((refine Exists.intro none ?_); (conv => whnf))); first | ((with_reducible refine call_by (kd) ?_); conv => whnf))
  refine exit_fz [] (by intro q hq; cases hq) (wkV_tu ⟨wkV_ag ?_, wkV_same _ rfl, rfl⟩)
  conv => whnf
  repeat' (refine And.intro ?_ ?_)
  all_goals first | exact True.intro | rfl | (with_reducible exact .inl rfl) | exact .inr (.inl ⟨rfl, rfl⟩) | exact .inl rfl | trace_state
end Go.Proofs
