/- Contracts of functions: whether two rows of messages are the same, in any order. -/
import Derived.Test.YtjgcblmkejnijaaG2
set_option linter.unusedSimpArgs false
set_option linter.unusedVariables false
namespace Go.Proofs
open Go.Pv
set_option maxRecDepth 100000

abbrev encU (u : Bool) : List PV := [bv u]
set_option maxHeartbeats 4000000 in
theorem c_same {κ : Type} [DecidableEq κ] (K : Mg → κ) (A B : List Mg) (hl : B.length ≤ 4294967) (hp : (A.map K).Perm (B.map K)) (hc : ∀ x ∈ A, ∀ y ∈ B, Ctr Try.prog 37 [.ag x.enc, .ag y.enc] (bv (decide (K x = K y))) []) :
    Ctr Try.prog 35 [.sl 16 (A.map Mg.enc), .sl 16 (B.map Mg.enc)] (bv true) [] := by
  have hlen : A.length = B.length := by have := hp.length_eq; simpa using this
  have hA : (A.map Mg.enc).length = A.length := List.length_map ..
  have hB : (B.map Mg.enc).length = B.length := List.length_map ..
  have hrep : ∀ n : Nat, (List.replicate n false).map encU = List.replicate n [PV.sc (.bool false)] := fun n => by rw [List.map_replicate]
  refine spec_of_body mixed Try.func35 rfl (by kernel_rfl) (by kernel_rfl) ?_; conv => whnf
  ((first | (with_reducible refine split_dec (fun h => ?_) (fun h => ?_)) | (with_reducible refine split_beq (fun h => ?_) (fun h => ?_)) | (with_reducible refine split_bne (fun h => ?_) (fun h => ?_)) | (with_reducible refine split_not (fun h => ?_) (fun h => ?_)) | (with_reducible refine split_beqS (fun h => ?_) (fun h => ?_)) | (with_reducible refine split_intro (fun h => ?_) (fun h => ?_))) <;> conv => whnf)
  · exfalso; omega
  clear h
  refine ⟨⟨⟨rfl, by omega, by rw [hB, Int.toNat_natCast]; show B.length * 1 ≤ _; omega, by rw [hB, Int.toNat_natCast]; exact leMax (by omega)⟩, rfl⟩, ?_⟩
  conv => whnf
  refine tri_forO mixed (by kernel_rfl) (fun b : Nat × List Bool => b.1 ≤ A.length ∧ b.2.length = B.length ∧ ∀ z, usedC K z b.2 B = ((A.take b.1).map K).count z) (fun b => [(6, iv (b.1 : Nat))]) (fun _ => []) (fun b => [(256, some (false, 1, b.2.map encU))]) [(256, 256)] (fun b => A.length - b.1) (0, List.replicate B.length false) ⟨Nat.zero_le _, by simp, fun z => by rw [usedC_0]; rfl⟩ ?_ ?_
  · conv => whnf
    (refine And.intro (And.intro (by with_unfolding_all rfl) (by intro q h; cases h)) ?_; refine And.intro ?_ (And.intro ?_ ?_) <;> (conv => whnf) <;> (repeat' (first | exact True.intro | (with_reducible exact rfl) | exact (rfl : List.replicate 0 PV.bad = []) | ((with_reducible refine And.intro ?_ ?_) <;> (first | (with_reducible exact wkV_same _ rfl) | exact wkV_pt rfl rfl | exact wkV_ow rfl rfl rfl | (refine wkV_ow rfl rfl ?_) | (refine wkV_sc (congrArg (Value.int .i64) ?_)) | (refine wkV_sc (congrArg Value.bool ?_)) | exact wkV_ls rfl | ((refine wkV_cl ?_); conv => whnf) | ((refine wkV_tu ?_); conv => whnf) | ((refine wkV_ag ?_); conv => whnf) | (conv => whnf))))))
    all_goals first | rfl | (refine obj_eq (by kernel_rfl) ?_; rw [Int.toNat_natCast, hB, hrep]; done) | (rw [Int.toNat_natCast, hB]; done) | (rw [Int.toNat_natCast, hB]; rfl) | trace_state
  rintro ⟨i, U⟩ ⟨hi, hU, hct⟩
  simp only at hi hU hct
  conv => whnf
  ((first | (with_reducible refine split_dec (fun h => ?_) (fun h => ?_)) | (with_reducible refine split_beq (fun h => ?_) (fun h => ?_)) | (with_reducible refine split_bne (fun h => ?_) (fun h => ?_)) | (with_reducible refine split_not (fun h => ?_) (fun h => ?_)) | (with_reducible refine split_beqS (fun h => ?_) (fun h => ?_)) | (with_reducible refine split_intro (fun h => ?_) (fun h => ?_))) <;> conv => whnf)
  · have hlt : i < A.length := by omega
    clear h
    obtain ⟨kx, hkx, hbx, hux, hex⟩ := one_left K hp hU hlt hct
    have hUl : (U.map encU).length = B.length := by rw [List.length_map, hU]
    -- the first one that is left
    refine tri_forO mixed (by kernel_rfl) (fun q : Nat × Int => (q.2 = -1 ∧ q.1 ≤ kx) ∨ ∃ (hk : q.1 - 1 < U.length) (hb : q.1 - 1 < B.length), 0 < q.1 ∧ q.2 = ((q.1 - 1 : Nat) : Int) ∧ U[q.1 - 1]'hk = false ∧ K (A[i]'hlt) = K (B[q.1 - 1]'hb)) (fun q => [(8, iv (q.1 : Nat)), (7, iv q.2)]) (fun _ => []) (fun _ => [(256, some (false, 1, U.map encU))]) [(256, 256)] (fun q => B.length - q.1) (0, -1) (.inl ⟨rfl, Nat.zero_le _⟩) ?_ ?_
    · conv => whnf
      (refine And.intro (And.intro (by with_unfolding_all rfl) (by intro q h; cases h)) ?_; refine And.intro ?_ (And.intro ?_ ?_) <;> (conv => whnf) <;> (repeat' (first | exact True.intro | (with_reducible exact rfl) | exact (rfl : List.replicate 0 PV.bad = []) | ((with_reducible refine And.intro ?_ ?_) <;> (first | (with_reducible exact wkV_same _ rfl) | exact wkV_pt rfl rfl | exact wkV_ow rfl rfl rfl | (refine wkV_ow rfl rfl ?_) | (refine wkV_sc (congrArg (Value.int .i64) ?_)) | (refine wkV_sc (congrArg Value.bool ?_)) | exact wkV_ls rfl | ((refine wkV_cl ?_); conv => whnf) | ((refine wkV_tu ?_); conv => whnf) | ((refine wkV_ag ?_); conv => whnf) | (conv => whnf))))))
      all_goals first | rfl | trace_state
    rintro ⟨k, a⟩ hq
    simp only at hq
    rcases hq with ⟨rfl, hk⟩ | ⟨hk, hb, h0, rfl, hu, he⟩
    · have hkU : k < U.length := by omega
      have hkB : k < B.length := by omega
      have hrow : (U.map encU)[0 + ((k : Nat) : Int).toNat]? = some (encU (U[k]'hkU)) := by
        rw [Nat.zero_add, Int.toNat_natCast, List.getElem?_map, List.getElem?_eq_getElem hkU]; rfl
      have ra : (A.map Mg.enc)[((i : Nat) : Int).toNat]? = some (A[i]'hlt).enc := row_at hlt
      have rb : (B.map Mg.enc)[((k : Nat) : Int).toNat]? = some (B[k]'hkB).enc := row_at hkB
      have kc := hc _ (List.getElem_mem hlt) _ (List.getElem_mem hkB)
      have hstop : U[k]'hkU = true ∨ ¬ K (A[i]'hlt) = K (B[k]'hkB) → k ≠ kx := fun h e => by
        subst e
        rcases h with h | h
        · rw [hux] at h; cases h
        · exact h hex
      conv => whnf
      ((first | (with_reducible refine split_dec (fun h => ?_) (fun h => ?_)) | (with_reducible refine split_beq (fun h => ?_) (fun h => ?_)) | (with_reducible refine split_bne (fun h => ?_) (fun h => ?_)) | (with_reducible refine split_not (fun h => ?_) (fun h => ?_)) | (with_reducible refine split_beqS (fun h => ?_) (fun h => ?_)) | (with_reducible refine split_intro (fun h => ?_) (fun h => ?_))) <;> conv => whnf)
      · clear h
        refine ⟨⟨by omega, by omega⟩, ?_⟩
        conv => whnf
        refine ⟨_, hrow, ?_⟩
        conv => whnf
        cases hu : U[k]'hkU with
        | true =>
          conv => whnf
          have := hstop (.inl hu)
          refine ⟨(k + 1, -1), [(256, 256)], ⟨.inl ⟨rfl, by show k + 1 ≤ kx; omega⟩, by show B.length - (k + 1) < B.length - k; omega⟩, ?_⟩
          conv => whnf
          (refine And.intro (And.intro (by with_unfolding_all rfl) (by intro q h; cases h)) ?_; refine And.intro ?_ (And.intro ?_ ?_) <;> (conv => whnf) <;> (repeat' (first | exact True.intro | (with_reducible exact rfl) | exact (rfl : List.replicate 0 PV.bad = []) | ((with_reducible refine And.intro ?_ ?_) <;> (first | (with_reducible exact wkV_same _ rfl) | exact wkV_pt rfl rfl | exact wkV_ow rfl rfl rfl | (refine wkV_ow rfl rfl ?_) | (refine wkV_sc (congrArg (Value.int .i64) ?_)) | (refine wkV_sc (congrArg Value.bool ?_)) | exact wkV_ls rfl | ((refine wkV_cl ?_); conv => whnf) | ((refine wkV_tu ?_); conv => whnf) | ((refine wkV_ag ?_); conv => whnf) | (conv => whnf))))))
          all_goals first | exact w1 (by omega) | rfl | trace_state
        | false =>
          conv => whnf
          refine ⟨by omega, _, ra, ?_⟩
          conv => whnf
          refine ⟨by omega, _, rb, ?_⟩
          conv => whnf
          by_cases he : K (A[i]'hlt) = K (B[k]'hkB)
          · rw [decide_eq_true he] at kc
            ((try ((refine Exists.intro none ?_); (conv => whnf))); first | ((with_reducible refine call_by (kc) ?_); conv => whnf))
            refine ⟨(k + 1, (k : Int)), [(256, 256)], ⟨.inr ⟨by show k + 1 - 1 < _; omega, by show k + 1 - 1 < _; omega, Nat.succ_pos _, by show (k : Int) = _; omega, hu, he⟩, by show B.length - (k + 1) < B.length - k; omega⟩, ?_⟩
            conv => whnf
            (refine And.intro (And.intro (by with_unfolding_all rfl) (by intro q h; cases h)) ?_; refine And.intro ?_ (And.intro ?_ ?_) <;> (conv => whnf) <;> (repeat' (first | exact True.intro | (with_reducible exact rfl) | exact (rfl : List.replicate 0 PV.bad = []) | ((with_reducible refine And.intro ?_ ?_) <;> (first | (with_reducible exact wkV_same _ rfl) | exact wkV_pt rfl rfl | exact wkV_ow rfl rfl rfl | (refine wkV_ow rfl rfl ?_) | (refine wkV_sc (congrArg (Value.int .i64) ?_)) | (refine wkV_sc (congrArg Value.bool ?_)) | exact wkV_ls rfl | ((refine wkV_cl ?_); conv => whnf) | ((refine wkV_tu ?_); conv => whnf) | ((refine wkV_ag ?_); conv => whnf) | (conv => whnf))))))
            all_goals first | exact w1 (by omega) | rfl | trace_state
          · rw [decide_eq_false he] at kc
            have := hstop (.inr he)
            ((try ((refine Exists.intro none ?_); (conv => whnf))); first | ((with_reducible refine call_by (kc) ?_); conv => whnf))
            refine ⟨(k + 1, -1), [(256, 256)], ⟨.inl ⟨rfl, by show k + 1 ≤ kx; omega⟩, by show B.length - (k + 1) < B.length - k; omega⟩, ?_⟩
            conv => whnf
            (refine And.intro (And.intro (by with_unfolding_all rfl) (by intro q h; cases h)) ?_; refine And.intro ?_ (And.intro ?_ ?_) <;> (conv => whnf) <;> (repeat' (first | exact True.intro | (with_reducible exact rfl) | exact (rfl : List.replicate 0 PV.bad = []) | ((with_reducible refine And.intro ?_ ?_) <;> (first | (with_reducible exact wkV_same _ rfl) | exact wkV_pt rfl rfl | exact wkV_ow rfl rfl rfl | (refine wkV_ow rfl rfl ?_) | (refine wkV_sc (congrArg (Value.int .i64) ?_)) | (refine wkV_sc (congrArg Value.bool ?_)) | exact wkV_ls rfl | ((refine wkV_cl ?_); conv => whnf) | ((refine wkV_tu ?_); conv => whnf) | ((refine wkV_ag ?_); conv => whnf) | (conv => whnf))))))
            all_goals first | exact w1 (by omega) | rfl | trace_state
      · exfalso; omega
    · obtain ⟨k, rfl⟩ : ∃ k', k = k' + 1 := ⟨k - 1, by omega⟩
      simp only [Nat.add_sub_cancel] at hk hb hu he
      rw [show ((k + 1 - 1 : Nat) : Int) = (k : Int) by simp]
      have hrow : (U.map encU)[0 + ((k : Nat) : Int).toNat]? = some (encU (U[k]'hk)) := by
        rw [Nat.zero_add, Int.toNat_natCast, List.getElem?_map, List.getElem?_eq_getElem hk]; rfl
      have hct2 : ∀ z, usedC K z (U.set k true) B = ((A.take (i + 1)).map K).count z := fun z => by
        rw [usedC_set K z U B k hk hb hu, hct z, List.take_succ_eq_append_getElem hlt, List.map_append, List.count_append, ← he]
        simp only [List.map_cons, List.map_nil, List.count_cons, List.count_nil, Nat.zero_add]
        by_cases e : K (A[i]'hlt) = z <;> simp [e]
      conv => whnf
      ((first | (with_reducible refine split_dec (fun h => ?_) (fun h => ?_)) | (with_reducible refine split_beq (fun h => ?_) (fun h => ?_)) | (with_reducible refine split_bne (fun h => ?_) (fun h => ?_)) | (with_reducible refine split_not (fun h => ?_) (fun h => ?_)) | (with_reducible refine split_beqS (fun h => ?_) (fun h => ?_)) | (with_reducible refine split_intro (fun h => ?_) (fun h => ?_))) <;> conv => whnf)
      · clear h
        refine ⟨⟨by omega, by omega⟩, ?_⟩
        conv => whnf
        refine ⟨_, hrow, ?_⟩
        conv => whnf
        refine ⟨(i + 1, U.set k true), [(256, 256)], ⟨⟨by show i + 1 ≤ _; omega, by show (U.set k true).length = _; rw [List.length_set]; exact hU, hct2⟩, by show A.length - (i + 1) < A.length - i; omega⟩, ?_⟩
        conv => whnf
        (refine And.intro (And.intro (by with_unfolding_all rfl) (by intro q h; cases h)) ?_; refine And.intro ?_ (And.intro ?_ ?_) <;> (conv => whnf) <;> (repeat' (first | exact True.intro | (with_reducible exact rfl) | exact (rfl : List.replicate 0 PV.bad = []) | ((with_reducible refine And.intro ?_ ?_) <;> (first | (with_reducible exact wkV_same _ rfl) | exact wkV_pt rfl rfl | exact wkV_ow rfl rfl rfl | (refine wkV_ow rfl rfl ?_) | (refine wkV_sc (congrArg (Value.int .i64) ?_)) | (refine wkV_sc (congrArg Value.bool ?_)) | exact wkV_ls rfl | ((refine wkV_cl ?_); conv => whnf) | ((refine wkV_tu ?_); conv => whnf) | ((refine wkV_ag ?_); conv => whnf) | (conv => whnf))))))
        all_goals first | exact w1 (by omega) | (refine obj_eq (by kernel_rfl) ?_; rw [Nat.zero_add, Int.toNat_natCast, List.map_set]; done) | rfl | trace_state
      · clear h
        refine ⟨⟨by omega, by omega⟩, ?_⟩
        conv => whnf
        refine ⟨_, hrow, ?_⟩
        conv => whnf
        refine ⟨(i + 1, U.set k true), [(256, 256)], ⟨⟨by show i + 1 ≤ _; omega, by show (U.set k true).length = _; rw [List.length_set]; exact hU, hct2⟩, by show A.length - (i + 1) < A.length - i; omega⟩, ?_⟩
        conv => whnf
        (refine And.intro (And.intro (by with_unfolding_all rfl) (by intro q h; cases h)) ?_; refine And.intro ?_ (And.intro ?_ ?_) <;> (conv => whnf) <;> (repeat' (first | exact True.intro | (with_reducible exact rfl) | exact (rfl : List.replicate 0 PV.bad = []) | ((with_reducible refine And.intro ?_ ?_) <;> (first | (with_reducible exact wkV_same _ rfl) | exact wkV_pt rfl rfl | exact wkV_ow rfl rfl rfl | (refine wkV_ow rfl rfl ?_) | (refine wkV_sc (congrArg (Value.int .i64) ?_)) | (refine wkV_sc (congrArg Value.bool ?_)) | exact wkV_ls rfl | ((refine wkV_cl ?_); conv => whnf) | ((refine wkV_tu ?_); conv => whnf) | ((refine wkV_ag ?_); conv => whnf) | (conv => whnf))))))
        all_goals first | exact w1 (by omega) | (refine obj_eq (by kernel_rfl) ?_; rw [Nat.zero_add, Int.toNat_natCast, List.map_set]; done) | rfl | trace_state
  · have ei : i = A.length := by omega
    subst ei
    exact exit_plain rfl rfl
end Go.Proofs
