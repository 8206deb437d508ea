import Derived.Test.YtbhfokahocgndaaGreatH3
import Derived.Test.YtbhfokahocgndaaGreatC6
import Derived.Test.YtbhfokahocgndaaGreatC10
/- Contracts of functions: a replica of one's own; a new one. -/
set_option linter.unusedSimpArgs false
set_option linter.unusedVariables false
namespace Go.Proofs
open Go.Pv
set_option maxRecDepth 100000

/-- A replica's cells: what stands for its snapshot, its log, its questions; what it sends. -/
abbrev repV (x : Rft) (sn lg rd out : PV) : List PV := [iv x.id, iv x.hard.term, iv x.hard.vote, iv x.hard.base, iv x.hard.baseTerm, iv x.hard.baseConf.full, iv x.hard.baseConf.wit, iv x.hard.baseConf.learn, iv x.hard.baseConf.lwit, sn, lg, iv x.commit, iv x.role, iv x.lead, iv x.wait, iv x.quiet, iv x.votes, iv x.round, iv x.next.a0, iv x.next.a1, iv x.next.a2, iv x.next.a3, iv x.next.a4, iv x.next.a5, iv x.next.a6, iv x.mtch.a0, iv x.mtch.a1, iv x.mtch.a2, iv x.mtch.a3, iv x.mtch.a4, iv x.mtch.a5, iv x.mtch.a6, iv x.silent.a0, iv x.silent.a1, iv x.silent.a2, iv x.silent.a3, iv x.silent.a4, iv x.silent.a5, iv x.silent.a6, rd, out]
abbrev snW (x : Rft) (k : Nat) : PV := .ow k 0 (x.hard.snap.map encB).length
abbrev lgW (x : Rft) (k : Nat) : PV := .ow k 0 (x.hard.log.map Ent.enc).length
abbrev rdW (x : Rft) (k : Nat) : PV := .ow k 0 (x.reads.map Rd.enc).length
/-- A replica that is handed in: its cells, its slices. -/
abbrev repI (x : Rft) (out : List (List PV)) : List PV := repV x (snW x 1000000) (lgW x 1000001) (rdW x 1000002) (.ow 1000003 0 out.length)
abbrev snO (x : Rft) : Option (Bool × Nat × List (List PV)) := some (false, 1, x.hard.snap.map encB)
abbrev lgO (x : Rft) : Option (Bool × Nat × List (List PV)) := some (false, 16, x.hard.log.map Ent.enc)
abbrev rdO (x : Rft) : Option (Bool × Nat × List (List PV)) := some (false, 13, x.reads.map Rd.enc)
abbrev obI (x : Rft) (out : List (List PV)) : List (Nat × Option (Bool × Nat × List (List PV))) := [(1000000, snO x), (1000001, lgO x), (1000002, rdO x), (1000003, some (false, 16, out))]
set_option maxHeartbeats 2000000 in
theorem c_of (r : Rft) (h1 : r.hard.snap.length ≤ 4294967296) (h2 : r.hard.log.length ≤ 4294967296) (h3 : r.reads.length ≤ 4294967296) (hr : rightB r = true) :
    CtrE Tryz.prog 39 [.ag r.enc] [] [] (.tu [.pt 28 0, iv 0]) [(28, repV r (snW r 0) (lgW r 1) (rdW r 2) (.ow 3 0 0))] [(0, snO r), (1, lgO r), (2, rdO r), (3, some (false, 16, []))] := by
  have k := c_rCheck r (smallM h2) (smallM h3)
  rw [hr, if_pos rfl] at k
  refine spec_of_bodyE mixed Tryz.func39 rfl (by kernel_rfl) (by kernel_rfl) ?_; conv => whnf
  ((try ((refine Exists.intro none ?_); (conv => whnf))); first | ((with_reducible refine call_by (k) ?_); conv => whnf))
  ((try ((refine Exists.intro none ?_); (conv => whnf))); first | ((with_reducible refine call_by (c_CloneBytes r.hard.snap h1) ?_); conv => whnf))
  (refine Exists.intro _ (And.intro rfl (And.intro (by intro q hq; first | (cases hq; done) | (simp only [List.mem_cons, List.not_mem_nil, or_false] at hq; rcases hq with rfl | rfl <;> (simp only [List.length_cons, List.length_nil]; omega)) | (simp only [List.mem_cons, List.not_mem_nil, or_false] at hq; subst hq; simp only [List.length_cons, List.length_nil]; omega)) (And.intro (by intro i hi; simp only [List.length_cons, List.length_nil, Nat.lt_one_iff, Nat.zero_add] at hi; subst hi; rfl) ?_))); conv => whnf)
  ((try ((refine Exists.intro none ?_); (conv => whnf))); first | ((with_reducible refine call_by (c_CloneEntries r.hard.log h2) ?_); conv => whnf))
  (refine Exists.intro _ (And.intro rfl (And.intro (by intro q hq; first | (cases hq; done) | (simp only [List.mem_cons, List.not_mem_nil, or_false] at hq; rcases hq with rfl | rfl <;> (simp only [List.length_cons, List.length_nil]; omega)) | (simp only [List.mem_cons, List.not_mem_nil, or_false] at hq; subst hq; simp only [List.length_cons, List.length_nil]; omega)) (And.intro (by intro i hi; simp only [List.length_cons, List.length_nil, Nat.lt_one_iff, Nat.zero_add] at hi; subst hi; rfl) ?_))); conv => whnf)
  ((try ((refine Exists.intro none ?_); (conv => whnf))); first | ((with_reducible refine call_by (c_CloneReads r.reads h3) ?_); conv => whnf))
  (refine Exists.intro _ (And.intro rfl (And.intro (by intro q hq; first | (cases hq; done) | (simp only [List.mem_cons, List.not_mem_nil, or_false] at hq; rcases hq with rfl | rfl <;> (simp only [List.length_cons, List.length_nil]; omega)) | (simp only [List.mem_cons, List.not_mem_nil, or_false] at hq; subst hq; simp only [List.length_cons, List.length_nil]; omega)) (And.intro (by intro i hi; simp only [List.length_cons, List.length_nil, Nat.lt_one_iff, Nat.zero_add] at hi; subst hi; rfl) ?_))); conv => whnf)
  refine exitE_born 28 40 3000 16 _ rfl rfl rfl ?_
  conv => whnf
  (refine exitE_of [(0, 208), (1, 272), (2, 320), (3, 3000)] [] ?_; (conv => whnf); (refine And.intro (And.intro (by with_unfolding_all rfl) (by intro q h; cases h)) ?_; refine And.intro ?_ (And.intro ?_ ?_) <;> (conv => whnf) <;> (repeat' (first | exact True.intro | (with_reducible exact rfl) | exact (rfl : List.replicate 0 PV.bad = []) | ((with_reducible refine And.intro ?_ ?_) <;> (first | (with_reducible exact wkV_same _ rfl) | exact wkV_pt rfl rfl | exact wkV_ow rfl rfl rfl | (refine wkV_ow rfl rfl ?_) | (refine wkV_sc (congrArg (Value.int .i64) ?_)) | (refine wkV_sc (congrArg Value.bool ?_)) | exact wkV_ls rfl | ((refine wkV_cl ?_); conv => whnf) | ((refine wkV_tu ?_); conv => whnf) | ((refine wkV_ag ?_); conv => whnf) | (conv => whnf)))))))
  all_goals first | rfl | trace_state
end Go.Proofs

/- Contracts of functions: a replica falls; its bit; the others. -/
namespace Go.Proofs
open Go.Pv
set_option maxRecDepth 100000

set_option maxHeartbeats 2000000 in
theorem c_fall (r : Rft) (hm : r.hard.log.length ≤ maxLen) (out : List (List PV)) (term lead : Int) :
    CtrE Tryz.prog 113 [.pt 1000000 0, iv term, iv lead] [(1000000, repI r out)] (obI r out) (.tu [])
      [(1000000, repV (fallR r term lead) (snW r 1000000) (lgW r 1000001) (.ow 2 0 0) (.ow 1000003 0 out.length))] (obI r out ++ [(2, some (false, 13, []))]) := by
  have kc := c_vConf { r with role := 0, lead := lead, votes := 0, reads := [], next := zA, mtch := zA, silent := zA } hm
  have kd := c_Delay (inForce r) r.id
  unfold fallR
  refine spec_of_bodyE mixed Tryz.func113 rfl (by kernel_rfl) (by kernel_rfl) ?_; conv => whnf
  ((try ((refine Exists.intro none ?_); (conv => whnf))); (first | (with_reducible refine And.intro (Nat.le_of_eq (Nat.zero_add _)) ?_) | (refine And.intro (by simp only [List.length_map, List.length_set, Nat.zero_add]; omega) ?_)); conv => whnf)
  ((try ((refine Exists.intro none ?_); (conv => whnf))); (first | (with_reducible refine And.intro (Nat.le_of_eq (Nat.zero_add _)) ?_) | (refine And.intro (by simp only [List.length_map, List.length_set, Nat.zero_add]; omega) ?_)); conv => whnf)
  ((try ((refine Exists.intro none ?_); (conv => whnf))); refine call_deep (kc) (by (repeat' (first | exact subVL_nil | exact subVR_nil | refine subVL_cons ?_ ?_ | refine subVR_cons ?_ ?_ | exact SubV.refl _ | exact subV_nl | (with_reducible exact subV_tk rfl) | refine subV_ag ?_ | refine subV_sl ?_ | refine subV_ep ?_))) ?_; conv => whnf)
  ((try ((refine Exists.intro none ?_); (conv => whnf))); first | ((with_reducible refine call_by (kd) ?_); conv => whnf))
  ((first | (with_reducible refine split_dec (fun h => ?_) (fun h => ?_)) | (with_reducible refine split_beq (fun h => ?_) (fun h => ?_)) | (with_reducible refine split_bne (fun h => ?_) (fun h => ?_)) | (with_reducible refine split_not (fun h => ?_) (fun h => ?_)) | (with_reducible refine split_beqS (fun h => ?_) (fun h => ?_)) | (with_reducible refine split_intro (fun h => ?_) (fun h => ?_))) <;> conv => whnf)
  · rw [if_pos (by omega)]
    refine exitE_born 1000000 39 3000 13 _ rfl rfl rfl ?_
    conv => whnf
    (refine exitE_of [(1000000, 1000000), (1000001, 1000001), (1000002, 1000002), (1000003, 1000003), (2, 3000)] [] ?_; (conv => whnf); (refine And.intro (And.intro (by with_unfolding_all rfl) (by intro q h; cases h)) ?_; refine And.intro ?_ (And.intro ?_ ?_) <;> (conv => whnf) <;> (repeat' (first | exact True.intro | (with_reducible exact rfl) | exact (rfl : List.replicate 0 PV.bad = []) | ((with_reducible refine And.intro ?_ ?_) <;> (first | (with_reducible exact wkV_same _ rfl) | exact wkV_pt rfl rfl | exact wkV_ow rfl rfl rfl | (refine wkV_ow rfl rfl ?_) | (refine wkV_sc (congrArg (Value.int .i64) ?_)) | (refine wkV_sc (congrArg Value.bool ?_)) | exact wkV_ls rfl | ((refine wkV_cl ?_); conv => whnf) | ((refine wkV_tu ?_); conv => whnf) | ((refine wkV_ag ?_); conv => whnf) | (conv => whnf)))))))
    all_goals first | rfl | trace_state
  · rw [if_neg (by omega)]
    refine exitE_born 1000000 39 3000 13 _ rfl rfl rfl ?_
    conv => whnf
    (refine exitE_of [(1000000, 1000000), (1000001, 1000001), (1000002, 1000002), (1000003, 1000003), (2, 3000)] [] ?_; (conv => whnf); (refine And.intro (And.intro (by with_unfolding_all rfl) (by intro q h; cases h)) ?_; refine And.intro ?_ (And.intro ?_ ?_) <;> (conv => whnf) <;> (repeat' (first | exact True.intro | (with_reducible exact rfl) | exact (rfl : List.replicate 0 PV.bad = []) | ((with_reducible refine And.intro ?_ ?_) <;> (first | (with_reducible exact wkV_same _ rfl) | exact wkV_pt rfl rfl | exact wkV_ow rfl rfl rfl | (refine wkV_ow rfl rfl ?_) | (refine wkV_sc (congrArg (Value.int .i64) ?_)) | (refine wkV_sc (congrArg Value.bool ?_)) | exact wkV_ls rfl | ((refine wkV_cl ?_); conv => whnf) | ((refine wkV_tu ?_); conv => whnf) | ((refine wkV_ag ?_); conv => whnf) | (conv => whnf)))))))
    all_goals first | rfl | trace_state
/-- Its own bit. -/
theorem c_bitR (r : Rft) (out : List (List PV)) (hid : 0 ≤ r.id ∧ r.id < 7) : CtrE Tryz.prog 126 [.pt 1000000 0] [(1000000, repI r out)] (obI r out) (iv (shl 1 r.id)) [(1000000, repI r out)] (obI r out) := by
  refine spec_of_bodyE mixed Tryz.func126 rfl (by kernel_rfl) (by kernel_rfl) ?_; conv => whnf
  refine ⟨⟨by decide, hid.1⟩, ?_⟩
  conv => whnf
  (refine exitE_of [(1000000, 1000000), (1000001, 1000001), (1000002, 1000002), (1000003, 1000003)] [] ?_; (conv => whnf); (refine And.intro (And.intro (by with_unfolding_all rfl) (by intro q h; cases h)) ?_; refine And.intro ?_ (And.intro ?_ ?_) <;> (conv => whnf) <;> (repeat' (first | exact True.intro | (with_reducible exact rfl) | exact (rfl : List.replicate 0 PV.bad = []) | ((with_reducible refine And.intro ?_ ?_) <;> (first | (with_reducible exact wkV_same _ rfl) | exact wkV_pt rfl rfl | exact wkV_ow rfl rfl rfl | (refine wkV_ow rfl rfl ?_) | (refine wkV_sc (congrArg (Value.int .i64) ?_)) | (refine wkV_sc (congrArg Value.bool ?_)) | exact wkV_ls rfl | ((refine wkV_cl ?_); conv => whnf) | ((refine wkV_tu ?_); conv => whnf) | ((refine wkV_ag ?_); conv => whnf) | (conv => whnf)))))))
  all_goals first | rfl | trace_state
theorem othN_yes {id bits : Int} {i : Nat} (h : (i : Int) ≠ id) (ht : tb bits i = true) : othN id bits (i + 1) = othN id bits i ++ [(i : Int)] := by
  unfold othN
  rw [List.range_succ, List.filter_append, List.map_append, List.filter_cons, if_pos (by simp [h, ht])]; rfl
theorem othN_no {id bits : Int} {i : Nat} (h : (i : Int) = id ∨ tb bits i = false) : othN id bits (i + 1) = othN id bits i := by
  unfold othN
  rw [List.range_succ, List.filter_append, List.map_append, List.filter_cons, if_neg (by rcases h with h | h <;> simp [h])]; simp
theorem othN_len (id bits : Int) (i : Nat) : (othN id bits i).length ≤ i := by
  unfold othN
  rw [List.length_map]
  have := List.length_filter_le (fun k : Nat => decide ((k : Int) ≠ id) && tb bits k) (List.range i)
  rw [List.length_range] at this
  exact this
abbrev encI (n : Int) : List PV := [iv n]
set_option maxHeartbeats 4000000 in
theorem c_others (r : Rft) (out : List (List PV)) (bits : Int) : CtrE Tryz.prog 125 [.pt 1000000 0, iv bits] [(1000000, repI r out)] (obI r out) (.ow 1 0 ((othN r.id bits 7).map encI).length) [(1000000, repI r out)] [(1000000, snO r), (1000001, lgO r), (1000002, rdO r), (1000003, some (false, 16, out)), (1, some (false, 1, (othN r.id bits 7).map encI))] := by
  refine spec_of_bodyE mixed Tryz.func125 rfl (by kernel_rfl) (by kernel_rfl) ?_; conv => whnf
  refine tri_born 5 1002 1 rfl rfl ?_
  conv => whnf
  refine tri_forO mixed (by kernel_rfl) (fun i : Nat => i ≤ 7) (fun i => [(7, iv i), (5, .ow 1002 0 ((othN r.id bits i).map encI).length)]) (fun _ => [(1000000, repI r out)]) (fun i => [(1000000, snO r), (1000001, lgO r), (1000002, rdO r), (1000003, some (false, 16, out)), (1002, some (false, 1, (othN r.id bits i).map encI))]) [(1000000, 1000000), (1000001, 1000001), (1000002, 1000002), (1000003, 1000003), (1002, 1002)] (fun i => 7 - i) 0 (Nat.zero_le _) ?_ ?_
  · conv => whnf
    (refine And.intro (And.intro (by with_unfolding_all rfl) (by intro q h; cases h)) ?_; refine And.intro ?_ (And.intro ?_ ?_) <;> (conv => whnf) <;> (repeat' (first | exact True.intro | (with_reducible exact rfl) | exact (rfl : List.replicate 0 PV.bad = []) | ((with_reducible refine And.intro ?_ ?_) <;> (first | (with_reducible exact wkV_same _ rfl) | exact wkV_pt rfl rfl | exact wkV_ow rfl rfl rfl | (refine wkV_ow rfl rfl ?_) | (refine wkV_sc (congrArg (Value.int .i64) ?_)) | (refine wkV_sc (congrArg Value.bool ?_)) | exact wkV_ls rfl | ((refine wkV_cl ?_); conv => whnf) | ((refine wkV_tu ?_); conv => whnf) | ((refine wkV_ag ?_); conv => whnf) | (conv => whnf))))))
    all_goals first | rfl | trace_state
  intro i hi
  have hl := othN_len r.id bits i
  have hlm : ((othN r.id bits i).map encI).length = (othN r.id bits i).length := List.length_map ..
  conv => whnf
  ((first | (with_reducible refine split_dec (fun h => ?_) (fun h => ?_)) | (with_reducible refine split_beq (fun h => ?_) (fun h => ?_)) | (with_reducible refine split_bne (fun h => ?_) (fun h => ?_)) | (with_reducible refine split_not (fun h => ?_) (fun h => ?_)) | (with_reducible refine split_beqS (fun h => ?_) (fun h => ?_)) | (with_reducible refine split_intro (fun h => ?_) (fun h => ?_))) <;> conv => whnf)
  · have hlt : i < 7 := by omega
    clear h
    have hb : iand .i64 (ishr .i64 bits (i : Int)) 1 = nb (tb bits i) := bit_shr bits i (by omega)
    ((first | (with_reducible refine split_dec (fun h => ?_) (fun h => ?_)) | (with_reducible refine split_beq (fun h => ?_) (fun h => ?_)) | (with_reducible refine split_bne (fun h => ?_) (fun h => ?_)) | (with_reducible refine split_not (fun h => ?_) (fun h => ?_)) | (with_reducible refine split_beqS (fun h => ?_) (fun h => ?_)) | (with_reducible refine split_intro (fun h => ?_) (fun h => ?_))) <;> conv => whnf)
    · have hne : ¬ (i : Int) = r.id := h
      clear h
      ((with_reducible refine And.intro (And.intro (by first | decide | omega) (by first | decide | omega)) ?_); conv => whnf)
      rw [hb]
      cases ht : tb bits i with
      | true =>
        have hy := othN_yes hne ht
        have hy : (othN r.id bits (i + 1)).map encI = (othN r.id bits i).map encI ++ [encI (i : Int)] := by rw [hy, List.map_append]; rfl
        conv => whnf
        have b1 : (((othN r.id bits i).map encI).length + 1) * 8 ≤ 140737488355328 := by omega
        have b2 : ((othN r.id bits i).map encI).length + 1 ≤ maxLen := smallM (by omega)
        (refine And.intro rfl ?_; (conv => whnf); refine And.intro (And.intro (And.intro (by kernel_rfl) (And.intro (Nat.le_refl _) (And.intro (b1) (And.intro (b2) (by intro r hr; rw [List.mem_singleton.1 hr]; rfl))))) (And.intro (by decide) rfl)) ?_; conv => whnf)
        refine ⟨i + 1, [(1000000, 1000000), (1000001, 1000001), (1000002, 1000002), (1000003, 1000003), (1002, 432)], ⟨by omega, by omega⟩, ?_⟩
        rw [hy]
        conv => whnf
        (refine And.intro (And.intro (by with_unfolding_all rfl) (by intro q h; cases h)) ?_; refine And.intro ?_ (And.intro ?_ ?_) <;> (conv => whnf) <;> (repeat' (first | exact True.intro | (with_reducible exact rfl) | exact (rfl : List.replicate 0 PV.bad = []) | ((with_reducible refine And.intro ?_ ?_) <;> (first | (with_reducible exact wkV_same _ rfl) | exact wkV_pt rfl rfl | exact wkV_ow rfl rfl rfl | (refine wkV_ow rfl rfl ?_) | (refine wkV_sc (congrArg (Value.int .i64) ?_)) | (refine wkV_sc (congrArg Value.bool ?_)) | exact wkV_ls rfl | ((refine wkV_cl ?_); conv => whnf) | ((refine wkV_tu ?_); conv => whnf) | ((refine wkV_ag ?_); conv => whnf) | (conv => whnf))))))
        all_goals first | exact w1 (by omega) | (refine obj_eq (by kernel_rfl) ?_; rw [List.take_of_length_le (Nat.le_refl _)]; done) | (refine obj_eq (by kernel_rfl) ?_; rw [List.take_of_length_le (Nat.le_refl _)]; rfl) | exact List.length_append.symm | rfl | trace_state
      | false =>
        have hn := othN_no (id := r.id) (i := i) (.inr ht)
        conv => whnf
        refine ⟨i + 1, [(1000000, 1000000), (1000001, 1000001), (1000002, 1000002), (1000003, 1000003), (1002, 1002)], ⟨by omega, by omega⟩, ?_⟩
        rw [hn]
        conv => whnf
        (refine And.intro (And.intro (by with_unfolding_all rfl) (by intro q h; cases h)) ?_; refine And.intro ?_ (And.intro ?_ ?_) <;> (conv => whnf) <;> (repeat' (first | exact True.intro | (with_reducible exact rfl) | exact (rfl : List.replicate 0 PV.bad = []) | ((with_reducible refine And.intro ?_ ?_) <;> (first | (with_reducible exact wkV_same _ rfl) | exact wkV_pt rfl rfl | exact wkV_ow rfl rfl rfl | (refine wkV_ow rfl rfl ?_) | (refine wkV_sc (congrArg (Value.int .i64) ?_)) | (refine wkV_sc (congrArg Value.bool ?_)) | exact wkV_ls rfl | ((refine wkV_cl ?_); conv => whnf) | ((refine wkV_tu ?_); conv => whnf) | ((refine wkV_ag ?_); conv => whnf) | (conv => whnf))))))
        all_goals first | exact w1 (by omega) | rfl | trace_state
    · have he : (i : Int) = r.id := by first | exact h | exact Classical.byContradiction h
      have hn := othN_no (bits := bits) (i := i) (.inl he)
      clear h
      refine ⟨i + 1, [(1000000, 1000000), (1000001, 1000001), (1000002, 1000002), (1000003, 1000003), (1002, 1002)], ⟨by omega, by omega⟩, ?_⟩
      rw [hn]
      conv => whnf
      (refine And.intro (And.intro (by with_unfolding_all rfl) (by intro q h; cases h)) ?_; refine And.intro ?_ (And.intro ?_ ?_) <;> (conv => whnf) <;> (repeat' (first | exact True.intro | (with_reducible exact rfl) | exact (rfl : List.replicate 0 PV.bad = []) | ((with_reducible refine And.intro ?_ ?_) <;> (first | (with_reducible exact wkV_same _ rfl) | exact wkV_pt rfl rfl | exact wkV_ow rfl rfl rfl | (refine wkV_ow rfl rfl ?_) | (refine wkV_sc (congrArg (Value.int .i64) ?_)) | (refine wkV_sc (congrArg Value.bool ?_)) | exact wkV_ls rfl | ((refine wkV_cl ?_); conv => whnf) | ((refine wkV_tu ?_); conv => whnf) | ((refine wkV_ag ?_); conv => whnf) | (conv => whnf))))))
      all_goals first | exact w1 (by omega) | rfl | trace_state
  · have ei : i = 7 := by omega
    subst ei
    (refine exitE_of [(1000000, 1000000), (1000001, 1000001), (1000002, 1000002), (1000003, 1000003), (1, 1002)] [] ?_; (conv => whnf); (refine And.intro (And.intro (by with_unfolding_all rfl) (by intro q h; cases h)) ?_; refine And.intro ?_ (And.intro ?_ ?_) <;> (conv => whnf) <;> (repeat' (first | exact True.intro | (with_reducible exact rfl) | exact (rfl : List.replicate 0 PV.bad = []) | ((with_reducible refine And.intro ?_ ?_) <;> (first | (with_reducible exact wkV_same _ rfl) | exact wkV_pt rfl rfl | exact wkV_ow rfl rfl rfl | (refine wkV_ow rfl rfl ?_) | (refine wkV_sc (congrArg (Value.int .i64) ?_)) | (refine wkV_sc (congrArg Value.bool ?_)) | exact wkV_ls rfl | ((refine wkV_cl ?_); conv => whnf) | ((refine wkV_tu ?_); conv => whnf) | ((refine wkV_ag ?_); conv => whnf) | (conv => whnf)))))))
    all_goals first | rfl | trace_state
set_option maxHeartbeats 2000000 in
theorem c_voters (r : Rft) (hm : r.hard.log.length ≤ maxLen) (out : List (List PV)) : CtrE Tryz.prog 152 [.pt 1000000 0] [(1000000, repI r out)] (obI r out) (.ow 1 0 ((othN r.id (bor (inForce r).full (inForce r).wit) 7).map encI).length) [(1000000, repI r out)]
    [(1000000, snO r), (1000001, lgO r), (1000002, rdO r), (1000003, some (false, 16, out)), (1, some (false, 1, (othN r.id (bor (inForce r).full (inForce r).wit) 7).map encI))] := by
  have kc := c_vConf r hm
  have kv := c_Voters (inForce r)
  have ko := c_others r out (bor (inForce r).full (inForce r).wit)
  refine spec_of_bodyE mixed Tryz.func152 rfl (by kernel_rfl) (by kernel_rfl) ?_; conv => whnf
  ((try ((refine Exists.intro none ?_); (conv => whnf))); (first | (with_reducible refine And.intro (Nat.le_of_eq (Nat.zero_add _)) ?_) | (refine And.intro (by simp only [List.length_map, List.length_set, Nat.zero_add]; omega) ?_)); conv => whnf)
  ((try ((refine Exists.intro none ?_); (conv => whnf))); (first | (with_reducible refine And.intro (Nat.le_of_eq (Nat.zero_add _)) ?_) | (refine And.intro (by simp only [List.length_map, List.length_set, Nat.zero_add]; omega) ?_)); conv => whnf)
  ((try ((refine Exists.intro none ?_); (conv => whnf))); (first | (with_reducible refine And.intro (Nat.le_of_eq (Nat.zero_add _)) ?_) | (refine And.intro (by simp only [List.length_map, List.length_set, Nat.zero_add]; omega) ?_)); conv => whnf)
  ((try ((refine Exists.intro none ?_); (conv => whnf))); first | (refine call_eq (kc) (by simp only [List.drop_zero, List.take_length]) ?_; conv => whnf))
  ((try ((refine Exists.intro none ?_); (conv => whnf))); first | ((with_reducible refine call_by (kv) ?_); conv => whnf))
  ((refine Exists.intro (some ([(1000000, 1000000)], [(1000000, 1000000), (1000001, 1000001), (1000002, 1000002), (1000003, 1000003)], [(1, 900)])) ?_); (conv => whnf); first | ((with_reducible refine callE_by (ko) ?_); conv => whnf))
  (refine exitE_of [(1000000, 1000000), (1000001, 1000001), (1000002, 1000002), (1000003, 1000003), (1, 900)] [] ?_; (conv => whnf); (refine And.intro (And.intro (by with_unfolding_all rfl) (by intro q h; cases h)) ?_; refine And.intro ?_ (And.intro ?_ ?_) <;> (conv => whnf) <;> (repeat' (first | exact True.intro | (with_reducible exact rfl) | exact (rfl : List.replicate 0 PV.bad = []) | ((with_reducible refine And.intro ?_ ?_) <;> (first | (with_reducible exact wkV_same _ rfl) | exact wkV_pt rfl rfl | exact wkV_ow rfl rfl rfl | (refine wkV_ow rfl rfl ?_) | (refine wkV_sc (congrArg (Value.int .i64) ?_)) | (refine wkV_sc (congrArg Value.bool ?_)) | exact wkV_ls rfl | ((refine wkV_cl ?_); conv => whnf) | ((refine wkV_tu ?_); conv => whnf) | ((refine wkV_ag ?_); conv => whnf) | (conv => whnf)))))))
  all_goals first | rfl | trace_state
end Go.Proofs

/- Contracts of functions: a message is sent. -/
namespace Go.Proofs
open Go.Pv
set_option maxRecDepth 100000

abbrev msgV (k f t tm ix lt cm rd : Int) (y : Bool) (es : PV) (cf : Conf) (sn : PV) : List PV := [iv k, iv f, iv t, iv tm, iv ix, iv lt, iv cm, iv rd, bv y, es, iv cf.full, iv cf.wit, iv cf.learn, iv cf.lwit, sn, .nl]
/-- A replica that is handed in, with more sent. -/
abbrev repM (x : Rft) (out : List (List PV)) : List PV := repV x (snW x 1000000) (lgW x 1000001) (rdW x 1000002) (.ow 1 0 out.length)
abbrev obM (x : Rft) (out : List (List PV)) : List (Nat × Option (Bool × Nat × List (List PV))) := [(1000000, snO x), (1000001, lgO x), (1000002, rdO x), (1000003, none), (1, some (false, 16, out))]
set_option maxHeartbeats 2000000 in
theorem c_sendN (r : Rft) (out : List (List PV)) (ho : out.length ≤ 4294967) (k f t tm ix lt cm rd : Int) (y : Bool) (cf : Conf) (to term : Int) :
    CtrE Tryz.prog 128 [.pt 1000000 0, .ag (msgV k f t tm ix lt cm rd y (.nl) cf (.nl)), iv to, iv term] [(1000000, repI r out)] (obI r out) (.tu []) [(1000000, repM r (out ++ [msgV k r.id to term ix lt cm rd y (.nl) cf (.nl)]))] (obM r (out ++ [msgV k r.id to term ix lt cm rd y (.nl) cf (.nl)])) := by
  have hget : ∀ z : List PV, (List.take out.length out ++ [z])[0 + ((out.length : Nat) : Int).toNat]? = some z := fun z => by
    rw [List.take_length, Nat.zero_add, Int.toNat_natCast, List.getElem?_append_right (Nat.le_refl _), Nat.sub_self]; rfl
  have hset : ∀ z u : List PV, (List.take out.length out ++ [z]).set (0 + ((out.length : Nat) : Int).toNat) u = out ++ [u] := fun z u => by
    rw [List.take_length, Nat.zero_add, Int.toNat_natCast, List.set_append_right _ _ (Nat.le_refl _), Nat.sub_self]; rfl
  have b1 : (out.length + 1) * 176 ≤ 140737488355328 := by omega
  have b2 : out.length + 1 ≤ maxLen := smallM (by omega)
  refine spec_of_bodyE mixed Tryz.func128 rfl (by kernel_rfl) (by kernel_rfl) ?_; conv => whnf
  (refine And.intro rfl ?_; (conv => whnf); refine And.intro (And.intro (And.intro (by kernel_rfl) (And.intro (Nat.le_refl _) (And.intro (b1) (And.intro (b2) (by intro r hr; rw [List.mem_singleton.1 hr]; rfl))))) (And.intro (by decide) rfl)) ?_; conv => whnf)
  refine ⟨⟨by omega, by first | omega | (simp only [List.length_cons, List.length_nil]; omega)⟩, ?_⟩
  conv => whnf
  refine ⟨_, hget _, ?_⟩
  conv => whnf
  (refine exitE_of [(1000000, 1000000), (1000001, 1000001), (1000002, 1000002), (1000003, 1000003), (1, 400)] [] ?_; (conv => whnf); (refine And.intro (And.intro (by with_unfolding_all rfl) (by intro q h; cases h)) ?_; refine And.intro ?_ (And.intro ?_ ?_) <;> (conv => whnf) <;> (repeat' (first | exact True.intro | (with_reducible exact rfl) | exact (rfl : List.replicate 0 PV.bad = []) | ((with_reducible refine And.intro ?_ ?_) <;> (first | (with_reducible exact wkV_same _ rfl) | exact wkV_pt rfl rfl | exact wkV_ow rfl rfl rfl | (refine wkV_ow rfl rfl ?_) | (refine wkV_sc (congrArg (Value.int .i64) ?_)) | (refine wkV_sc (congrArg Value.bool ?_)) | exact wkV_ls rfl | ((refine wkV_cl ?_); conv => whnf) | ((refine wkV_tu ?_); conv => whnf) | ((refine wkV_ag ?_); conv => whnf) | (conv => whnf)))))))
  all_goals first | rfl | (refine obj_eq (by kernel_rfl) ?_; rw [hset]; done) | (refine obj_eq (by kernel_rfl) ?_; rw [hset]; rfl) | (simp only [List.length_append, List.length_cons, List.length_nil]; done) | trace_state
/-- A replica whose log and snapshot nobody writes any more. -/
abbrev repFI (x : Rft) (out : List (List PV)) : List PV := repV x (.sl 1 (x.hard.snap.map encB)) (.sl 16 (x.hard.log.map Ent.enc)) (rdW x 1000000) (.ow 1000001 0 out.length)
abbrev repFM (x : Rft) (out : List (List PV)) : List PV := repV x (.sl 1 (x.hard.snap.map encB)) (.sl 16 (x.hard.log.map Ent.enc)) (rdW x 1000000) (.ow 1 0 out.length)
set_option maxHeartbeats 2000000 in
theorem c_sendFN (r : Rft) (out : List (List PV)) (ho : out.length ≤ 4294967) (k f t tm ix lt cm rd : Int) (y : Bool) (cf : Conf) (to term : Int) :
    CtrE Tryz.prog 128 [.pt 1000000 0, .ag (msgV k f t tm ix lt cm rd y (.nl) cf (.nl)), iv to, iv term] [(1000000, repFI r out)] [(1000000, rdO r), (1000001, some (false, 16, out))] (.tu []) [(1000000, repFM r (out ++ [msgV k r.id to term ix lt cm rd y (.nl) cf (.nl)]))] [(1000000, rdO r), (1000001, none), (1, some (false, 16, out ++ [msgV k r.id to term ix lt cm rd y (.nl) cf (.nl)]))] := by
  have hget : ∀ z : List PV, (List.take out.length out ++ [z])[0 + ((out.length : Nat) : Int).toNat]? = some z := fun z => by
    rw [List.take_length, Nat.zero_add, Int.toNat_natCast, List.getElem?_append_right (Nat.le_refl _), Nat.sub_self]; rfl
  have hset : ∀ z u : List PV, (List.take out.length out ++ [z]).set (0 + ((out.length : Nat) : Int).toNat) u = out ++ [u] := fun z u => by
    rw [List.take_length, Nat.zero_add, Int.toNat_natCast, List.set_append_right _ _ (Nat.le_refl _), Nat.sub_self]; rfl
  have b1 : (out.length + 1) * 176 ≤ 140737488355328 := by omega
  have b2 : out.length + 1 ≤ maxLen := smallM (by omega)
  refine spec_of_bodyE mixed Tryz.func128 rfl (by kernel_rfl) (by kernel_rfl) ?_; conv => whnf
  (refine And.intro rfl ?_; (conv => whnf); refine And.intro (And.intro (And.intro (by kernel_rfl) (And.intro (Nat.le_refl _) (And.intro (b1) (And.intro (b2) (by intro r hr; rw [List.mem_singleton.1 hr]; rfl))))) (And.intro (by decide) rfl)) ?_; conv => whnf)
  refine ⟨⟨by omega, by first | omega | (simp only [List.length_cons, List.length_nil]; omega)⟩, ?_⟩
  conv => whnf
  refine ⟨_, hget _, ?_⟩
  conv => whnf
  (refine exitE_of [(1000000, 1000000), (1000001, 1000001), (1, 400)] [] ?_; (conv => whnf); (refine And.intro (And.intro (by with_unfolding_all rfl) (by intro q h; cases h)) ?_; refine And.intro ?_ (And.intro ?_ ?_) <;> (conv => whnf) <;> (repeat' (first | exact True.intro | (with_reducible exact rfl) | exact (rfl : List.replicate 0 PV.bad = []) | ((with_reducible refine And.intro ?_ ?_) <;> (first | (with_reducible exact wkV_same _ rfl) | exact wkV_pt rfl rfl | exact wkV_ow rfl rfl rfl | (refine wkV_ow rfl rfl ?_) | (refine wkV_sc (congrArg (Value.int .i64) ?_)) | (refine wkV_sc (congrArg Value.bool ?_)) | exact wkV_ls rfl | ((refine wkV_cl ?_); conv => whnf) | ((refine wkV_tu ?_); conv => whnf) | ((refine wkV_ag ?_); conv => whnf) | (conv => whnf)))))))
  all_goals first | rfl | (refine obj_eq (by kernel_rfl) ?_; rw [hset]; done) | (refine obj_eq (by kernel_rfl) ?_; rw [hset]; rfl) | (simp only [List.length_append, List.length_cons, List.length_nil]; done) | trace_state
set_option maxHeartbeats 2000000 in
theorem c_sendFA (r : Rft) (out : List (List PV)) (ho : out.length ≤ 4294967) (k f t tm ix lt cm rd : Int) (y : Bool) (cf : Conf) (rows : List (List PV)) (to term : Int) :
    CtrE Tryz.prog 128 [.pt 1000000 0, .ag (msgV k f t tm ix lt cm rd y (.sl 16 rows) cf (.nl)), iv to, iv term] [(1000000, repFI r out)] [(1000000, rdO r), (1000001, some (false, 16, out))] (.tu []) [(1000000, repFM r (out ++ [msgV k r.id to term ix lt cm rd y (.sl 16 rows) cf (.nl)]))] [(1000000, rdO r), (1000001, none), (1, some (false, 16, out ++ [msgV k r.id to term ix lt cm rd y (.sl 16 rows) cf (.nl)]))] := by
  have hget : ∀ z : List PV, (List.take out.length out ++ [z])[0 + ((out.length : Nat) : Int).toNat]? = some z := fun z => by
    rw [List.take_length, Nat.zero_add, Int.toNat_natCast, List.getElem?_append_right (Nat.le_refl _), Nat.sub_self]; rfl
  have hset : ∀ z u : List PV, (List.take out.length out ++ [z]).set (0 + ((out.length : Nat) : Int).toNat) u = out ++ [u] := fun z u => by
    rw [List.take_length, Nat.zero_add, Int.toNat_natCast, List.set_append_right _ _ (Nat.le_refl _), Nat.sub_self]; rfl
  have b1 : (out.length + 1) * 176 ≤ 140737488355328 := by omega
  have b2 : out.length + 1 ≤ maxLen := smallM (by omega)
  refine spec_of_bodyE mixed Tryz.func128 rfl (by kernel_rfl) (by kernel_rfl) ?_; conv => whnf
  (refine And.intro rfl ?_; (conv => whnf); refine And.intro (And.intro (And.intro (by kernel_rfl) (And.intro (Nat.le_refl _) (And.intro (b1) (And.intro (b2) (by intro r hr; rw [List.mem_singleton.1 hr]; rfl))))) (And.intro (by decide) rfl)) ?_; conv => whnf)
  refine ⟨⟨by omega, by first | omega | (simp only [List.length_cons, List.length_nil]; omega)⟩, ?_⟩
  conv => whnf
  refine ⟨_, hget _, ?_⟩
  conv => whnf
  (refine exitE_of [(1000000, 1000000), (1000001, 1000001), (1, 400)] [] ?_; (conv => whnf); (refine And.intro (And.intro (by with_unfolding_all rfl) (by intro q h; cases h)) ?_; refine And.intro ?_ (And.intro ?_ ?_) <;> (conv => whnf) <;> (repeat' (first | exact True.intro | (with_reducible exact rfl) | exact (rfl : List.replicate 0 PV.bad = []) | ((with_reducible refine And.intro ?_ ?_) <;> (first | (with_reducible exact wkV_same _ rfl) | exact wkV_pt rfl rfl | exact wkV_ow rfl rfl rfl | (refine wkV_ow rfl rfl ?_) | (refine wkV_sc (congrArg (Value.int .i64) ?_)) | (refine wkV_sc (congrArg Value.bool ?_)) | exact wkV_ls rfl | ((refine wkV_cl ?_); conv => whnf) | ((refine wkV_tu ?_); conv => whnf) | ((refine wkV_ag ?_); conv => whnf) | (conv => whnf)))))))
  all_goals first | rfl | (refine obj_eq (by kernel_rfl) ?_; rw [hset]; done) | (refine obj_eq (by kernel_rfl) ?_; rw [hset]; rfl) | (simp only [List.length_append, List.length_cons, List.length_nil]; done) | trace_state
set_option maxHeartbeats 2000000 in
theorem c_sendFS (r : Rft) (out : List (List PV)) (ho : out.length ≤ 4294967) (k f t tm ix lt cm rd : Int) (y : Bool) (cf : Conf) (rows : List (List PV)) (to term : Int) :
    CtrE Tryz.prog 128 [.pt 1000000 0, .ag (msgV k f t tm ix lt cm rd y (.nl) cf (.sl 1 rows)), iv to, iv term] [(1000000, repFI r out)] [(1000000, rdO r), (1000001, some (false, 16, out))] (.tu []) [(1000000, repFM r (out ++ [msgV k r.id to term ix lt cm rd y (.nl) cf (.sl 1 rows)]))] [(1000000, rdO r), (1000001, none), (1, some (false, 16, out ++ [msgV k r.id to term ix lt cm rd y (.nl) cf (.sl 1 rows)]))] := by
  have hget : ∀ z : List PV, (List.take out.length out ++ [z])[0 + ((out.length : Nat) : Int).toNat]? = some z := fun z => by
    rw [List.take_length, Nat.zero_add, Int.toNat_natCast, List.getElem?_append_right (Nat.le_refl _), Nat.sub_self]; rfl
  have hset : ∀ z u : List PV, (List.take out.length out ++ [z]).set (0 + ((out.length : Nat) : Int).toNat) u = out ++ [u] := fun z u => by
    rw [List.take_length, Nat.zero_add, Int.toNat_natCast, List.set_append_right _ _ (Nat.le_refl _), Nat.sub_self]; rfl
  have b1 : (out.length + 1) * 176 ≤ 140737488355328 := by omega
  have b2 : out.length + 1 ≤ maxLen := smallM (by omega)
  refine spec_of_bodyE mixed Tryz.func128 rfl (by kernel_rfl) (by kernel_rfl) ?_; conv => whnf
  (refine And.intro rfl ?_; (conv => whnf); refine And.intro (And.intro (And.intro (by kernel_rfl) (And.intro (Nat.le_refl _) (And.intro (b1) (And.intro (b2) (by intro r hr; rw [List.mem_singleton.1 hr]; rfl))))) (And.intro (by decide) rfl)) ?_; conv => whnf)
  refine ⟨⟨by omega, by first | omega | (simp only [List.length_cons, List.length_nil]; omega)⟩, ?_⟩
  conv => whnf
  refine ⟨_, hget _, ?_⟩
  conv => whnf
  (refine exitE_of [(1000000, 1000000), (1000001, 1000001), (1, 400)] [] ?_; (conv => whnf); (refine And.intro (And.intro (by with_unfolding_all rfl) (by intro q h; cases h)) ?_; refine And.intro ?_ (And.intro ?_ ?_) <;> (conv => whnf) <;> (repeat' (first | exact True.intro | (with_reducible exact rfl) | exact (rfl : List.replicate 0 PV.bad = []) | ((with_reducible refine And.intro ?_ ?_) <;> (first | (with_reducible exact wkV_same _ rfl) | exact wkV_pt rfl rfl | exact wkV_ow rfl rfl rfl | (refine wkV_ow rfl rfl ?_) | (refine wkV_sc (congrArg (Value.int .i64) ?_)) | (refine wkV_sc (congrArg Value.bool ?_)) | exact wkV_ls rfl | ((refine wkV_cl ?_); conv => whnf) | ((refine wkV_tu ?_); conv => whnf) | ((refine wkV_ag ?_); conv => whnf) | (conv => whnf)))))))
  all_goals first | rfl | (refine obj_eq (by kernel_rfl) ?_; rw [hset]; done) | (refine obj_eq (by kernel_rfl) ?_; rw [hset]; rfl) | (simp only [List.length_append, List.length_cons, List.length_nil]; done) | trace_state
end Go.Proofs

/- Contracts of functions: the other voters are asked. -/
namespace Go.Proofs
open Go.Pv
set_option maxRecDepth 100000

abbrev askM (r : Rft) (kind term : Int) (i : Int) : List PV := msgV kind r.id i term (lastI r.hard) (lastT r.hard) 0 0 false .nl cz .nl
noncomputable def votL (r : Rft) : List Int := othN r.id (bor (inForce r).full (inForce r).wit) 7
set_option maxHeartbeats 4000000 in
theorem c_canvass (r : Rft) (hm : r.hard.log.length ≤ maxLen) (out : List (List PV)) (ho : out.length ≤ 4000000) (kind term : Int) :
    CtrE Tryz.prog 129 [.pt 1000000 0, iv kind, iv term] [(1000000, repI r out)] (obI r out) (.tu []) [(1000000, repM r (out ++ (votL r).map (askM r kind term)))] (obM r (out ++ (votL r).map (askM r kind term))) := by
  have kl := c_Last r.hard hm
  have kv := c_voters r hm out
  have hlen : (votL r).length ≤ 7 := othN_len _ _ _
  have ks := fun (o : List (List PV)) (ho : o.length ≤ 4294967) (i : Int) => c_sendN r o ho kind 0 0 0 (lastI r.hard) (lastT r.hard) 0 0 false cz i term
  unfold votL at hlen ⊢
  generalize othN r.id (bor (inForce r).full (inForce r).wit) 7 = vs at *
  have hvm : (vs.map encI).length = vs.length := List.length_map ..
  refine spec_of_bodyE mixed Tryz.func129 rfl (by kernel_rfl) (by kernel_rfl) ?_; conv => whnf
  ((try ((refine Exists.intro none ?_); (conv => whnf))); (first | (with_reducible refine And.intro (Nat.le_of_eq (Nat.zero_add _)) ?_) | (refine And.intro (by simp only [List.length_map, List.length_set, Nat.zero_add]; omega) ?_)); conv => whnf)
  ((try ((refine Exists.intro none ?_); (conv => whnf))); (first | (with_reducible refine And.intro (Nat.le_of_eq (Nat.zero_add _)) ?_) | (refine And.intro (by simp only [List.length_map, List.length_set, Nat.zero_add]; omega) ?_)); conv => whnf)
  ((try ((refine Exists.intro none ?_); (conv => whnf))); first | (refine call_eq (kl) (by simp only [List.drop_zero, List.take_length]) ?_; conv => whnf))
  ((refine Exists.intro (some ([(1000000, 1000000)], [(1000000, 1000000), (1000001, 1000001), (1000002, 1000002), (1000003, 1000003)], [(1, 901)])) ?_); (conv => whnf); first | ((with_reducible refine callE_by (kv) ?_); conv => whnf))
  refine tri_mv 1000003 2000 rfl rfl ?_
  conv => whnf
  refine tri_forO mixed (by kernel_rfl) (fun i : Nat => i ≤ vs.length) (fun i => [(22, iv i)]) (fun i => [(1000000, repV r (snW r 1000000) (lgW r 1000001) (rdW r 1000002) (.ow 2000 0 (out ++ (vs.take i).map (askM r kind term)).length))]) (fun i => [(1000000, snO r), (1000001, lgO r), (1000002, rdO r), (1000003, none), (901, some (false, 1, vs.map encI)), (2000, some (false, 16, out ++ (vs.take i).map (askM r kind term)))]) [(1000000, 1000000), (1000001, 1000001), (1000002, 1000002), (1000003, 1000003), (901, 901), (2000, 2000)] (fun i => vs.length - i) 0 (Nat.zero_le _) ?_ ?_
  · conv => whnf
    (refine And.intro (And.intro (by with_unfolding_all rfl) (by intro q h; cases h)) ?_; refine And.intro ?_ (And.intro ?_ ?_) <;> (conv => whnf) <;> (repeat' (first | exact True.intro | (with_reducible exact rfl) | exact (rfl : List.replicate 0 PV.bad = []) | ((with_reducible refine And.intro ?_ ?_) <;> (first | (with_reducible exact wkV_same _ rfl) | exact wkV_pt rfl rfl | exact wkV_ow rfl rfl rfl | (refine wkV_ow rfl rfl ?_) | (refine wkV_sc (congrArg (Value.int .i64) ?_)) | (refine wkV_sc (congrArg Value.bool ?_)) | exact wkV_ls rfl | ((refine wkV_cl ?_); conv => whnf) | ((refine wkV_tu ?_); conv => whnf) | ((refine wkV_ag ?_); conv => whnf) | (conv => whnf))))))
    all_goals first | rfl | (refine obj_eq (by kernel_rfl) ?_; exact (List.append_nil _).symm) | exact (congrArg List.length (List.append_nil _)).symm | trace_state
  intro i hi
  have hol : (out ++ (vs.take i).map (askM r kind term)).length ≤ 4294967 := by rw [List.length_append, List.length_map, List.length_take]; omega
  conv => whnf
  ((first | (with_reducible refine split_dec (fun h => ?_) (fun h => ?_)) | (with_reducible refine split_beq (fun h => ?_) (fun h => ?_)) | (with_reducible refine split_bne (fun h => ?_) (fun h => ?_)) | (with_reducible refine split_not (fun h => ?_) (fun h => ?_)) | (with_reducible refine split_beqS (fun h => ?_) (fun h => ?_)) | (with_reducible refine split_intro (fun h => ?_) (fun h => ?_))) <;> conv => whnf)
  · have hlt : i < vs.length := by omega
    clear h
    have hrow : (vs.map encI)[0 + ((i : Nat) : Int).toNat]? = some (encI (vs[i]'hlt)) := by
      rw [Nat.zero_add, Int.toNat_natCast, List.getElem?_map, List.getElem?_eq_getElem hlt]; rfl
    have hsucc : out ++ (vs.take (i + 1)).map (askM r kind term) = (out ++ (vs.take i).map (askM r kind term)) ++ [askM r kind term (vs[i]'hlt)] := by
      rw [List.take_succ_eq_append_getElem hlt, List.map_append, List.append_assoc]; rfl
    have k := ks _ hol (vs[i]'hlt)
    generalize vs[i]'hlt = v at *
    refine ⟨⟨by omega, by omega⟩, ?_⟩
    conv => whnf
    refine ⟨_, hrow, ?_⟩
    conv => whnf
    ((refine Exists.intro (some ([(1000000, 1000000)], [(1000000, 1000000), (1000001, 1000001), (1000002, 1000002), (1000003, 2000)], [(1, 902)])) ?_); (conv => whnf); first | ((with_reducible refine callE_by (k) ?_); conv => whnf))
    refine ⟨i + 1, [(1000000, 1000000), (1000001, 1000001), (1000002, 1000002), (1000003, 1000003), (901, 901), (2000, 902)], ⟨by omega, by omega⟩, ?_⟩
    rw [hsucc]
    conv => whnf
    (refine And.intro (And.intro (by with_unfolding_all rfl) (by intro q h; cases h)) ?_; refine And.intro ?_ (And.intro ?_ ?_) <;> (conv => whnf) <;> (repeat' (first | exact True.intro | (with_reducible exact rfl) | exact (rfl : List.replicate 0 PV.bad = []) | ((with_reducible refine And.intro ?_ ?_) <;> (first | (with_reducible exact wkV_same _ rfl) | exact wkV_pt rfl rfl | exact wkV_ow rfl rfl rfl | (refine wkV_ow rfl rfl ?_) | (refine wkV_sc (congrArg (Value.int .i64) ?_)) | (refine wkV_sc (congrArg Value.bool ?_)) | exact wkV_ls rfl | ((refine wkV_cl ?_); conv => whnf) | ((refine wkV_tu ?_); conv => whnf) | ((refine wkV_ag ?_); conv => whnf) | (conv => whnf))))))
    all_goals first | exact w1 (by omega) | rfl | trace_state
  · have ei : i = vs.length := by omega
    subst ei
    rw [List.take_length]
    (refine exitE_of [(1000000, 1000000), (1000001, 1000001), (1000002, 1000002), (1000003, 1000003), (1, 2000)] [] ?_; (conv => whnf); (refine And.intro (And.intro (by with_unfolding_all rfl) (by intro q h; cases h)) ?_; refine And.intro ?_ (And.intro ?_ ?_) <;> (conv => whnf) <;> (repeat' (first | exact True.intro | (with_reducible exact rfl) | exact (rfl : List.replicate 0 PV.bad = []) | ((with_reducible refine And.intro ?_ ?_) <;> (first | (with_reducible exact wkV_same _ rfl) | exact wkV_pt rfl rfl | exact wkV_ow rfl rfl rfl | (refine wkV_ow rfl rfl ?_) | (refine wkV_sc (congrArg (Value.int .i64) ?_)) | (refine wkV_sc (congrArg Value.bool ?_)) | exact wkV_ls rfl | ((refine wkV_cl ?_); conv => whnf) | ((refine wkV_tu ?_); conv => whnf) | ((refine wkV_ag ?_); conv => whnf) | (conv => whnf)))))))
    all_goals first | rfl | trace_state
end Go.Proofs

/- Contracts of functions: an entry is put into a leader's log. -/
namespace Go.Proofs
open Go.Pv
set_option maxRecDepth 100000

abbrev logR (r : Rft) (x : Ent) : Hrd := { r.hard with log := r.hard.log ++ [x] }
noncomputable def addR (r : Rft) (x : Ent) : Rft := { r with hard := logR r x, mtch := r.mtch.put r.id.toNat (lastI (logR r x)), commit := commitR (logR r x) r.commit (r.mtch.put r.id.toNat (lastI (logR r x))) }
/-- A replica that is handed in, with a longer log. -/
abbrev repL (x : Rft) (k : Nat) (out : List (List PV)) : List PV := repV x (snW x 1000000) (lgW x k) (rdW x 1000002) (.ow 1000003 0 out.length)
abbrev obL (x : Rft) (k : Nat) (out : List (List PV)) : List (Nat × Option (Bool × Nat × List (List PV))) := [(1000000, snO x), (1000001, none), (1000002, rdO x), (1000003, some (false, 16, out)), (k, lgO x)]
theorem put_cases {i : Int} (h : 0 ≤ i ∧ i < 7) : i.toNat = 0 ∨ i.toNat = 1 ∨ i.toNat = 2 ∨ i.toNat = 3 ∨ i.toNat = 4 ∨ i.toNat = 5 ∨ i.toNat = 6 := by omega
set_option maxHeartbeats 8000000 in
theorem c_add (r : Rft) (hid : 0 ≤ r.id ∧ r.id < 7) (hm : r.hard.log.length ≤ 4294967) (hb : 0 ≤ r.hard.base) (hs : r.hard.base ≤ 1099511627776) (out : List (List PV)) (x : Ent) :
    CtrE Tryz.prog 42 [.pt 1000000 0, .ag x.enc] [(1000000, repI r out)] (obI r out) (iv (lastI (logR r x))) [(1000000, repL (addR r x) 1 out)] (obL (addR r x) 1 out) := by
  have hmap : (logR r x).log.map Ent.enc = r.hard.log.map Ent.enc ++ [x.enc] := by rw [List.map_append]; rfl
  have hlen : (logR r x).log.length = r.hard.log.length + 1 := by rw [List.length_append]; rfl
  have kl := c_Last (logR r x) (smallM (by omega))
  have kc := fun m : Arr => c_Commit (logR r x) (smallM (by omega)) hb (by show r.hard.base + ((logR r x).log.length : Int) < _; omega) r.commit m
  have b1 : ((r.hard.log.map Ent.enc).length + 1) * 152 ≤ 140737488355328 := by rw [List.length_map]; omega
  have b2 : (r.hard.log.map Ent.enc).length + 1 ≤ maxLen := smallM (by rw [List.length_map]; omega)
  unfold addR
  generalize hh : logR r x = H at *
  have e1 : H.term = r.hard.term := by rw [← hh]
  have e2 : H.vote = r.hard.vote := by rw [← hh]
  have e3 : H.base = r.hard.base := by rw [← hh]
  have e4 : H.baseTerm = r.hard.baseTerm := by rw [← hh]
  have e5 : H.baseConf = r.hard.baseConf := by rw [← hh]
  have e6 : H.snap = r.hard.snap := by rw [← hh]
  refine spec_of_triE mixed Tryz.func42 rfl (by kernel_rfl) (by kernel_rfl) ?_
  refine tri_seq mixed (by kernel_rfl) ?_
  conv => whnf
  refine tri_cut mixed (by kernel_rfl) (fun _ : Unit => True) (fun _ => []) (fun _ => [(1000000, repL { r with hard := H } 2000 out), (3, x.enc)]) (fun _ => obL { r with hard := H } 2000 out) ?_ ?_
  · conv => whnf
    (refine And.intro rfl ?_; (conv => whnf); refine And.intro (And.intro (And.intro (by kernel_rfl) (And.intro (Nat.le_refl _) (And.intro (b1) (And.intro (b2) (by intro r hr; rw [List.mem_singleton.1 hr]; rfl))))) (And.intro (by decide) rfl)) ?_; conv => whnf)
    refine ⟨(), [(1000000, 1000000), (1000001, 1000001), (1000002, 1000002), (1000003, 1000003), (2000, 256)], trivial, ?_⟩
    conv => whnf
    (refine And.intro (And.intro (by with_unfolding_all rfl) (by intro q h; cases h)) ?_; refine And.intro ?_ (And.intro ?_ ?_) <;> (conv => whnf) <;> (repeat' (first | exact True.intro | (with_reducible exact rfl) | exact (rfl : List.replicate 0 PV.bad = []) | ((with_reducible refine And.intro ?_ ?_) <;> (first | (with_reducible exact wkV_same _ rfl) | exact wkV_pt rfl rfl | exact wkV_ow rfl rfl rfl | (refine wkV_ow rfl rfl ?_) | (refine wkV_sc (congrArg (Value.int .i64) ?_)) | (refine wkV_sc (congrArg Value.bool ?_)) | exact wkV_ls rfl | ((refine wkV_cl ?_); conv => whnf) | ((refine wkV_tu ?_); conv => whnf) | ((refine wkV_ag ?_); conv => whnf) | (conv => whnf))))))
    all_goals first | rfl | (rw [e1]; done) | (rw [e2]; done) | (rw [e3]; done) | (rw [e4]; done) | (rw [e5]; done) | (rw [e6]; done) | (rw [hmap]; done) | (rw [hmap]; exact List.length_append.symm) | (refine obj_eq (by kernel_rfl) ?_; rw [hmap, List.take_of_length_le (Nat.le_refl _)]; done) | (refine obj_eq (by kernel_rfl) ?_; rw [hmap, List.take_of_length_le (Nat.le_refl _)]; rfl) | trace_state
  rintro _ _
  refine pwp_sound mixed _ _ _ (by kernel_rfl) ?_
  conv => whnf
  ((try ((refine Exists.intro none ?_); (conv => whnf))); (first | (with_reducible refine And.intro (Nat.le_of_eq (Nat.zero_add _)) ?_) | (refine And.intro (by simp only [List.length_map, List.length_set, Nat.zero_add]; omega) ?_)); conv => whnf)
  ((try ((refine Exists.intro none ?_); (conv => whnf))); (first | (with_reducible refine And.intro (Nat.le_of_eq (Nat.zero_add _)) ?_) | (refine And.intro (by simp only [List.length_map, List.length_set, Nat.zero_add]; omega) ?_)); conv => whnf)
  ((try ((refine Exists.intro none ?_); (conv => whnf))); first | (refine call_eq (kl) (by simp only [List.drop_zero, List.take_length]) ?_; conv => whnf))
  refine ⟨⟨hid.1, hid.2⟩, ?_⟩
  rcases put_cases hid with e | e | e | e | e | e | e
  · rw [e]
    conv => whnf
    ((try ((refine Exists.intro none ?_); (conv => whnf))); (first | (with_reducible refine And.intro (Nat.le_of_eq (Nat.zero_add _)) ?_) | (refine And.intro (by simp only [List.length_map, List.length_set, Nat.zero_add]; omega) ?_)); conv => whnf)
    ((try ((refine Exists.intro none ?_); (conv => whnf))); (first | (with_reducible refine And.intro (Nat.le_of_eq (Nat.zero_add _)) ?_) | (refine And.intro (by simp only [List.length_map, List.length_set, Nat.zero_add]; omega) ?_)); conv => whnf)
    ((try ((refine Exists.intro none ?_); (conv => whnf))); first | (refine call_eq (kc ⟨lastI H, r.mtch.a1, r.mtch.a2, r.mtch.a3, r.mtch.a4, r.mtch.a5, r.mtch.a6⟩) (by simp only [List.drop_zero, List.take_length]) ?_; conv => whnf))
    (refine exitE_of [(1000000, 1000000), (1000001, 1000001), (1000002, 1000002), (1000003, 1000003), (1, 2000)] [] ?_; (conv => whnf); (refine And.intro (And.intro (by with_unfolding_all rfl) (by intro q h; cases h)) ?_; refine And.intro ?_ (And.intro ?_ ?_) <;> (conv => whnf) <;> (repeat' (first | exact True.intro | (with_reducible exact rfl) | exact (rfl : List.replicate 0 PV.bad = []) | ((with_reducible refine And.intro ?_ ?_) <;> (first | (with_reducible exact wkV_same _ rfl) | exact wkV_pt rfl rfl | exact wkV_ow rfl rfl rfl | (refine wkV_ow rfl rfl ?_) | (refine wkV_sc (congrArg (Value.int .i64) ?_)) | (refine wkV_sc (congrArg Value.bool ?_)) | exact wkV_ls rfl | ((refine wkV_cl ?_); conv => whnf) | ((refine wkV_tu ?_); conv => whnf) | ((refine wkV_ag ?_); conv => whnf) | (conv => whnf)))))))
    all_goals first | rfl | trace_state
  · rw [e]
    conv => whnf
    ((try ((refine Exists.intro none ?_); (conv => whnf))); (first | (with_reducible refine And.intro (Nat.le_of_eq (Nat.zero_add _)) ?_) | (refine And.intro (by simp only [List.length_map, List.length_set, Nat.zero_add]; omega) ?_)); conv => whnf)
    ((try ((refine Exists.intro none ?_); (conv => whnf))); (first | (with_reducible refine And.intro (Nat.le_of_eq (Nat.zero_add _)) ?_) | (refine And.intro (by simp only [List.length_map, List.length_set, Nat.zero_add]; omega) ?_)); conv => whnf)
    ((try ((refine Exists.intro none ?_); (conv => whnf))); first | (refine call_eq (kc ⟨r.mtch.a0, lastI H, r.mtch.a2, r.mtch.a3, r.mtch.a4, r.mtch.a5, r.mtch.a6⟩) (by simp only [List.drop_zero, List.take_length]) ?_; conv => whnf))
    (refine exitE_of [(1000000, 1000000), (1000001, 1000001), (1000002, 1000002), (1000003, 1000003), (1, 2000)] [] ?_; (conv => whnf); (refine And.intro (And.intro (by with_unfolding_all rfl) (by intro q h; cases h)) ?_; refine And.intro ?_ (And.intro ?_ ?_) <;> (conv => whnf) <;> (repeat' (first | exact True.intro | (with_reducible exact rfl) | exact (rfl : List.replicate 0 PV.bad = []) | ((with_reducible refine And.intro ?_ ?_) <;> (first | (with_reducible exact wkV_same _ rfl) | exact wkV_pt rfl rfl | exact wkV_ow rfl rfl rfl | (refine wkV_ow rfl rfl ?_) | (refine wkV_sc (congrArg (Value.int .i64) ?_)) | (refine wkV_sc (congrArg Value.bool ?_)) | exact wkV_ls rfl | ((refine wkV_cl ?_); conv => whnf) | ((refine wkV_tu ?_); conv => whnf) | ((refine wkV_ag ?_); conv => whnf) | (conv => whnf)))))))
    all_goals first | rfl | trace_state
  · rw [e]
    conv => whnf
    ((try ((refine Exists.intro none ?_); (conv => whnf))); (first | (with_reducible refine And.intro (Nat.le_of_eq (Nat.zero_add _)) ?_) | (refine And.intro (by simp only [List.length_map, List.length_set, Nat.zero_add]; omega) ?_)); conv => whnf)
    ((try ((refine Exists.intro none ?_); (conv => whnf))); (first | (with_reducible refine And.intro (Nat.le_of_eq (Nat.zero_add _)) ?_) | (refine And.intro (by simp only [List.length_map, List.length_set, Nat.zero_add]; omega) ?_)); conv => whnf)
    ((try ((refine Exists.intro none ?_); (conv => whnf))); first | (refine call_eq (kc ⟨r.mtch.a0, r.mtch.a1, lastI H, r.mtch.a3, r.mtch.a4, r.mtch.a5, r.mtch.a6⟩) (by simp only [List.drop_zero, List.take_length]) ?_; conv => whnf))
    (refine exitE_of [(1000000, 1000000), (1000001, 1000001), (1000002, 1000002), (1000003, 1000003), (1, 2000)] [] ?_; (conv => whnf); (refine And.intro (And.intro (by with_unfolding_all rfl) (by intro q h; cases h)) ?_; refine And.intro ?_ (And.intro ?_ ?_) <;> (conv => whnf) <;> (repeat' (first | exact True.intro | (with_reducible exact rfl) | exact (rfl : List.replicate 0 PV.bad = []) | ((with_reducible refine And.intro ?_ ?_) <;> (first | (with_reducible exact wkV_same _ rfl) | exact wkV_pt rfl rfl | exact wkV_ow rfl rfl rfl | (refine wkV_ow rfl rfl ?_) | (refine wkV_sc (congrArg (Value.int .i64) ?_)) | (refine wkV_sc (congrArg Value.bool ?_)) | exact wkV_ls rfl | ((refine wkV_cl ?_); conv => whnf) | ((refine wkV_tu ?_); conv => whnf) | ((refine wkV_ag ?_); conv => whnf) | (conv => whnf)))))))
    all_goals first | rfl | trace_state
  · rw [e]
    conv => whnf
    ((try ((refine Exists.intro none ?_); (conv => whnf))); (first | (with_reducible refine And.intro (Nat.le_of_eq (Nat.zero_add _)) ?_) | (refine And.intro (by simp only [List.length_map, List.length_set, Nat.zero_add]; omega) ?_)); conv => whnf)
    ((try ((refine Exists.intro none ?_); (conv => whnf))); (first | (with_reducible refine And.intro (Nat.le_of_eq (Nat.zero_add _)) ?_) | (refine And.intro (by simp only [List.length_map, List.length_set, Nat.zero_add]; omega) ?_)); conv => whnf)
    ((try ((refine Exists.intro none ?_); (conv => whnf))); first | (refine call_eq (kc ⟨r.mtch.a0, r.mtch.a1, r.mtch.a2, lastI H, r.mtch.a4, r.mtch.a5, r.mtch.a6⟩) (by simp only [List.drop_zero, List.take_length]) ?_; conv => whnf))
    (refine exitE_of [(1000000, 1000000), (1000001, 1000001), (1000002, 1000002), (1000003, 1000003), (1, 2000)] [] ?_; (conv => whnf); (refine And.intro (And.intro (by with_unfolding_all rfl) (by intro q h; cases h)) ?_; refine And.intro ?_ (And.intro ?_ ?_) <;> (conv => whnf) <;> (repeat' (first | exact True.intro | (with_reducible exact rfl) | exact (rfl : List.replicate 0 PV.bad = []) | ((with_reducible refine And.intro ?_ ?_) <;> (first | (with_reducible exact wkV_same _ rfl) | exact wkV_pt rfl rfl | exact wkV_ow rfl rfl rfl | (refine wkV_ow rfl rfl ?_) | (refine wkV_sc (congrArg (Value.int .i64) ?_)) | (refine wkV_sc (congrArg Value.bool ?_)) | exact wkV_ls rfl | ((refine wkV_cl ?_); conv => whnf) | ((refine wkV_tu ?_); conv => whnf) | ((refine wkV_ag ?_); conv => whnf) | (conv => whnf)))))))
    all_goals first | rfl | trace_state
  · rw [e]
    conv => whnf
    ((try ((refine Exists.intro none ?_); (conv => whnf))); (first | (with_reducible refine And.intro (Nat.le_of_eq (Nat.zero_add _)) ?_) | (refine And.intro (by simp only [List.length_map, List.length_set, Nat.zero_add]; omega) ?_)); conv => whnf)
    ((try ((refine Exists.intro none ?_); (conv => whnf))); (first | (with_reducible refine And.intro (Nat.le_of_eq (Nat.zero_add _)) ?_) | (refine And.intro (by simp only [List.length_map, List.length_set, Nat.zero_add]; omega) ?_)); conv => whnf)
    ((try ((refine Exists.intro none ?_); (conv => whnf))); first | (refine call_eq (kc ⟨r.mtch.a0, r.mtch.a1, r.mtch.a2, r.mtch.a3, lastI H, r.mtch.a5, r.mtch.a6⟩) (by simp only [List.drop_zero, List.take_length]) ?_; conv => whnf))
    (refine exitE_of [(1000000, 1000000), (1000001, 1000001), (1000002, 1000002), (1000003, 1000003), (1, 2000)] [] ?_; (conv => whnf); (refine And.intro (And.intro (by with_unfolding_all rfl) (by intro q h; cases h)) ?_; refine And.intro ?_ (And.intro ?_ ?_) <;> (conv => whnf) <;> (repeat' (first | exact True.intro | (with_reducible exact rfl) | exact (rfl : List.replicate 0 PV.bad = []) | ((with_reducible refine And.intro ?_ ?_) <;> (first | (with_reducible exact wkV_same _ rfl) | exact wkV_pt rfl rfl | exact wkV_ow rfl rfl rfl | (refine wkV_ow rfl rfl ?_) | (refine wkV_sc (congrArg (Value.int .i64) ?_)) | (refine wkV_sc (congrArg Value.bool ?_)) | exact wkV_ls rfl | ((refine wkV_cl ?_); conv => whnf) | ((refine wkV_tu ?_); conv => whnf) | ((refine wkV_ag ?_); conv => whnf) | (conv => whnf)))))))
    all_goals first | rfl | trace_state
  · rw [e]
    conv => whnf
    ((try ((refine Exists.intro none ?_); (conv => whnf))); (first | (with_reducible refine And.intro (Nat.le_of_eq (Nat.zero_add _)) ?_) | (refine And.intro (by simp only [List.length_map, List.length_set, Nat.zero_add]; omega) ?_)); conv => whnf)
    ((try ((refine Exists.intro none ?_); (conv => whnf))); (first | (with_reducible refine And.intro (Nat.le_of_eq (Nat.zero_add _)) ?_) | (refine And.intro (by simp only [List.length_map, List.length_set, Nat.zero_add]; omega) ?_)); conv => whnf)
    ((try ((refine Exists.intro none ?_); (conv => whnf))); first | (refine call_eq (kc ⟨r.mtch.a0, r.mtch.a1, r.mtch.a2, r.mtch.a3, r.mtch.a4, lastI H, r.mtch.a6⟩) (by simp only [List.drop_zero, List.take_length]) ?_; conv => whnf))
    (refine exitE_of [(1000000, 1000000), (1000001, 1000001), (1000002, 1000002), (1000003, 1000003), (1, 2000)] [] ?_; (conv => whnf); (refine And.intro (And.intro (by with_unfolding_all rfl) (by intro q h; cases h)) ?_; refine And.intro ?_ (And.intro ?_ ?_) <;> (conv => whnf) <;> (repeat' (first | exact True.intro | (with_reducible exact rfl) | exact (rfl : List.replicate 0 PV.bad = []) | ((with_reducible refine And.intro ?_ ?_) <;> (first | (with_reducible exact wkV_same _ rfl) | exact wkV_pt rfl rfl | exact wkV_ow rfl rfl rfl | (refine wkV_ow rfl rfl ?_) | (refine wkV_sc (congrArg (Value.int .i64) ?_)) | (refine wkV_sc (congrArg Value.bool ?_)) | exact wkV_ls rfl | ((refine wkV_cl ?_); conv => whnf) | ((refine wkV_tu ?_); conv => whnf) | ((refine wkV_ag ?_); conv => whnf) | (conv => whnf)))))))
    all_goals first | rfl | trace_state
  · rw [e]
    conv => whnf
    ((try ((refine Exists.intro none ?_); (conv => whnf))); (first | (with_reducible refine And.intro (Nat.le_of_eq (Nat.zero_add _)) ?_) | (refine And.intro (by simp only [List.length_map, List.length_set, Nat.zero_add]; omega) ?_)); conv => whnf)
    ((try ((refine Exists.intro none ?_); (conv => whnf))); (first | (with_reducible refine And.intro (Nat.le_of_eq (Nat.zero_add _)) ?_) | (refine And.intro (by simp only [List.length_map, List.length_set, Nat.zero_add]; omega) ?_)); conv => whnf)
    ((try ((refine Exists.intro none ?_); (conv => whnf))); first | (refine call_eq (kc ⟨r.mtch.a0, r.mtch.a1, r.mtch.a2, r.mtch.a3, r.mtch.a4, r.mtch.a5, lastI H⟩) (by simp only [List.drop_zero, List.take_length]) ?_; conv => whnf))
    (refine exitE_of [(1000000, 1000000), (1000001, 1000001), (1000002, 1000002), (1000003, 1000003), (1, 2000)] [] ?_; (conv => whnf); (refine And.intro (And.intro (by with_unfolding_all rfl) (by intro q h; cases h)) ?_; refine And.intro ?_ (And.intro ?_ ?_) <;> (conv => whnf) <;> (repeat' (first | exact True.intro | (with_reducible exact rfl) | exact (rfl : List.replicate 0 PV.bad = []) | ((with_reducible refine And.intro ?_ ?_) <;> (first | (with_reducible exact wkV_same _ rfl) | exact wkV_pt rfl rfl | exact wkV_ow rfl rfl rfl | (refine wkV_ow rfl rfl ?_) | (refine wkV_sc (congrArg (Value.int .i64) ?_)) | (refine wkV_sc (congrArg Value.bool ?_)) | exact wkV_ls rfl | ((refine wkV_cl ?_); conv => whnf) | ((refine wkV_tu ?_); conv => whnf) | ((refine wkV_ag ?_); conv => whnf) | (conv => whnf)))))))
    all_goals first | rfl | trace_state
end Go.Proofs
