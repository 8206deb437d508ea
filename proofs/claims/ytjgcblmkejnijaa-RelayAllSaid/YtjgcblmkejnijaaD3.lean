/- Contracts of functions: a few places put in order. -/
import Derived.Test.YtjgcblmkejnijaaD2
import Derived.Test.YtjgcblmkejnijaaC1
set_option linter.unusedSimpArgs false
set_option linter.unusedVariables false
namespace Go.Proofs
open Go.Pv
set_option maxRecDepth 100000

def pz : Pl := ⟨0, 0, 0, 0⟩
def insK (s : List Pl) (x : Pl) : Nat → List Pl
  | 0 => x :: s
  | j + 1 => if cmpP x (s.getD j pz) < 0 then insK s x j else s.take (j + 1) ++ x :: s.drop (j + 1)
def insA (s : List Pl) (x : Pl) : List Pl := insK s x s.length
theorem insK_len (s : List Pl) (x : Pl) : ∀ j, (insK s x j).length = s.length + 1
  | 0 => rfl
  | j + 1 => by
    unfold insK
    split
    · exact insK_len s x j
    · rw [List.length_append, List.length_cons, List.length_take, List.length_drop]; omega
def sortA (l : List Pl) : List Pl := l.foldl insA []
theorem sortA_len : ∀ (l : List Pl), (sortA l).length = l.length := by
  have key : ∀ (l s : List Pl), (l.foldl insA s).length = s.length + l.length := by
    intro l
    induction l with
    | nil => intro s; rfl
    | cons x l ih => intro s; rw [List.foldl_cons, ih]; unfold insA; rw [insK_len, List.length_cons]; omega
  intro l
  have := key l []
  simpa [sortA] using this
theorem sortA_succ {l : List Pl} {i : Nat} (h : i < l.length) : sortA (l.take (i + 1)) = insA (sortA (l.take i)) (l[i]'h) := by
  unfold sortA
  rw [List.take_succ_eq_append_getElem h, List.foldl_append]; rfl
def arrI (l : List Pl) (i : Nat) : List Pl := sortA (l.take i) ++ l.drop i
def arrJ (s : List Pl) (x : Pl) (rest : List Pl) (j : Nat) : List Pl := s.take j ++ x :: (s.drop j ++ rest)
theorem arrJ_len {s : List Pl} {x : Pl} {rest : List Pl} {j : Nat} : (arrJ s x rest j).length = s.length + 1 + rest.length := by
  unfold arrJ
  simp only [List.length_append, List.length_cons, List.length_take, List.length_drop]; omega
theorem arrJ_at {s : List Pl} {x : Pl} {rest : List Pl} {j : Nat} (hj : j ≤ s.length) : (arrJ s x rest j)[j]? = some x := by
  unfold arrJ
  rw [List.getElem?_append_right (by rw [List.length_take]; omega), List.length_take, Nat.min_eq_left hj, Nat.sub_self]; rfl
theorem arrJ_pre {s : List Pl} {x : Pl} {rest : List Pl} {j : Nat} (hj : j < s.length) : (arrJ s x rest (j + 1))[j]? = some (s[j]'hj) := by
  unfold arrJ
  rw [List.getElem?_append_left (by rw [List.length_take]; omega), List.getElem?_take_of_lt (by omega), List.getElem?_eq_getElem hj]
theorem arrJ_set {s : List Pl} {x : Pl} {rest : List Pl} {j : Nat} (hj : j < s.length) : ((arrJ s x rest (j + 1)).set (j + 1) (s[j]'hj)).set j x = arrJ s x rest j := by
  unfold arrJ
  have e : s.take (j + 1) = s.take j ++ [s[j]'hj] := List.take_succ_eq_append_getElem hj
  have e2 : s.drop j = s[j]'hj :: s.drop (j + 1) := List.drop_eq_getElem_cons hj
  have hl : (s.take j).length = j := by rw [List.length_take]; omega
  rw [e, List.append_assoc, List.set_append_right _ _ (by omega), List.set_append_right _ _ (by omega), hl, e2]
  simp
  rw [e2]; rfl
theorem arrI_J {l : List Pl} {i : Nat} (h : i < l.length) : arrI l i = arrJ (sortA (l.take i)) (l[i]'h) (l.drop (i + 1)) i := by
  have hs : (sortA (l.take i)).length = i := by rw [sortA_len, List.length_take]; omega
  unfold arrI arrJ
  rw [show (sortA (l.take i)).take i = sortA (l.take i) from List.take_of_length_le (by omega), show (sortA (l.take i)).drop i = [] from List.drop_eq_nil_of_le (by omega), List.nil_append, List.drop_eq_getElem_cons h]

set_option maxHeartbeats 4000000 in
theorem c_insSort (l : List Pl) (hl : l.length ≤ 4294967) :
    CtrE Try.prog 123 [.ow 1000000 0 (l.map Pl.enc).length, iv 0, iv (l.length : Nat), .cl 57 []] [] [(1000000, some (false, 4, l.map Pl.enc))] (.tu []) [] [(1000000, some (false, 4, (sortA l).map Pl.enc))] := by
  have ea : (arrI l 1) = l := by
    cases l with
    | nil => rfl
    | cons x l => rfl
  have ez : sortA l = arrI l l.length := by unfold arrI; rw [List.take_length, List.drop_length, List.append_nil]
  refine spec_of_bodyE mixed Try.func123 rfl (by kernel_rfl) (by kernel_rfl) ?_; conv => whnf
  refine tri_forO mixed (by kernel_rfl) (fun i : Nat => 1 ≤ i ∧ (i ≤ l.length ∨ (l.length = 0 ∧ i = 1))) (fun i => [(8, iv i)]) (fun _ => []) (fun i => [(1000000, some (false, 4, (arrI l i).map Pl.enc))]) [(1000000, 1000000)] (fun i => l.length + 1 - i) 1 ⟨Nat.le_refl _, by omega⟩ ?_ ?_
  · rw [ea]
    conv => whnf
    (refine And.intro (And.intro (by with_unfolding_all rfl) (by intro q h; cases h)) ?_; refine And.intro ?_ (And.intro ?_ ?_) <;> (conv => whnf) <;> (repeat' (first | exact True.intro | (with_reducible exact rfl) | exact (rfl : List.replicate 0 PV.bad = []) | ((with_reducible refine And.intro ?_ ?_) <;> (first | (with_reducible exact wkV_same _ rfl) | exact wkV_pt rfl rfl | exact wkV_ow rfl rfl rfl | (refine wkV_ow rfl rfl ?_) | (refine wkV_sc (congrArg (Value.int .i64) ?_)) | (refine wkV_sc (congrArg Value.bool ?_)) | exact wkV_ls rfl | ((refine wkV_cl ?_); conv => whnf) | ((refine wkV_tu ?_); conv => whnf) | ((refine wkV_ag ?_); conv => whnf) | (conv => whnf))))))
    all_goals first | rfl | trace_state
  rintro i ⟨hi, hi2⟩
  conv => whnf
  ((first | (with_reducible refine split_dec (fun h => ?_) (fun h => ?_)) | (with_reducible refine split_beq (fun h => ?_) (fun h => ?_)) | (with_reducible refine split_bne (fun h => ?_) (fun h => ?_)) | (with_reducible refine split_not (fun h => ?_) (fun h => ?_)) | (with_reducible refine split_beqS (fun h => ?_) (fun h => ?_)) | (with_reducible refine split_intro (fun h => ?_) (fun h => ?_))) <;> conv => whnf)
  · have hlt : i < l.length := by omega
    clear h
    have hs : (sortA (l.take i)).length = i := by rw [sortA_len, List.length_take]; omega
    have hJ := arrI_J hlt
    have hsucc : arrI l (i + 1) = insK (sortA (l.take i)) (l[i]'hlt) i ++ l.drop (i + 1) := by
      unfold arrI; rw [sortA_succ hlt]; unfold insA; rw [hs]
    have hll : (l.drop (i + 1)).length = l.length - (i + 1) := List.length_drop
    generalize sortA (l.take i) = s at *
    generalize l[i]'hlt = x at *
    generalize l.drop (i + 1) = rest at *
    rw [hJ]
    refine tri_forO mixed (by kernel_rfl) (fun j : Nat => j ≤ i ∧ insK s x i = insK s x j) (fun j => [(9, iv j)]) (fun _ => []) (fun j => [(1000000, some (false, 4, (arrJ s x rest j).map Pl.enc))]) [(1000000, 1000000)] (fun j => j) i ⟨Nat.le_refl _, rfl⟩ ?_ ?_
    · conv => whnf
      (refine And.intro (And.intro (by with_unfolding_all rfl) (by intro q h; cases h)) ?_; refine And.intro ?_ (And.intro ?_ ?_) <;> (conv => whnf) <;> (repeat' (first | exact True.intro | (with_reducible exact rfl) | exact (rfl : List.replicate 0 PV.bad = []) | ((with_reducible refine And.intro ?_ ?_) <;> (first | (with_reducible exact wkV_same _ rfl) | exact wkV_pt rfl rfl | exact wkV_ow rfl rfl rfl | (refine wkV_ow rfl rfl ?_) | (refine wkV_sc (congrArg (Value.int .i64) ?_)) | (refine wkV_sc (congrArg Value.bool ?_)) | exact wkV_ls rfl | ((refine wkV_cl ?_); conv => whnf) | ((refine wkV_tu ?_); conv => whnf) | ((refine wkV_ag ?_); conv => whnf) | (conv => whnf))))))
      all_goals first | rfl | trace_state
    rintro j ⟨hj, hinv⟩
    conv => whnf
    ((first | (with_reducible refine split_dec (fun h => ?_) (fun h => ?_)) | (with_reducible refine split_beq (fun h => ?_) (fun h => ?_)) | (with_reducible refine split_bne (fun h => ?_) (fun h => ?_)) | (with_reducible refine split_not (fun h => ?_) (fun h => ?_)) | (with_reducible refine split_beqS (fun h => ?_) (fun h => ?_)) | (with_reducible refine split_intro (fun h => ?_) (fun h => ?_))) <;> conv => whnf)
    · obtain ⟨q, rfl⟩ : ∃ q, j = q + 1 := ⟨j - 1, by omega⟩
      clear h
      have hql : q < s.length := by omega
      have e1 : IntKind.i64.wrap (((q + 1 : Nat) : Int) - 1) = (q : Int) := by rw [wrap_id (by omega) (by omega)]; omega
      have hx : ((arrJ s x rest (q + 1)).map Pl.enc)[0 + ((q + 1 : Nat) : Int).toNat]? = some x.enc := by
        rw [Nat.zero_add, Int.toNat_natCast, List.getElem?_map, arrJ_at (by omega)]; rfl
      have hy : ((arrJ s x rest (q + 1)).map Pl.enc)[0 + ((q : Nat) : Int).toNat]? = some (s[q]'hql).enc := by
        rw [Nat.zero_add, Int.toNat_natCast, List.getElem?_map, arrJ_pre hql]; rfl
      have hset := arrJ_set (x := x) (rest := rest) hql
      have hk : insK s x (q + 1) = if cmpP x (s[q]'hql) < 0 then insK s x q else s.take (q + 1) ++ x :: s.drop (q + 1) := by
        conv => lhs; unfold insK
        rw [List.getD_eq_getElem?_getD, List.getElem?_eq_getElem hql]; rfl
      have kc := c_Cmp x (s[q]'hql)
      generalize s[q]'hql = y at *
      refine ⟨⟨by omega, by rw [List.length_map]; omega⟩, ?_⟩
      conv => whnf
      refine ⟨_, hx, ?_⟩
      conv => whnf
      rw [e1]
      refine ⟨⟨by omega, by rw [List.length_map]; omega⟩, ?_⟩
      conv => whnf
      refine ⟨_, hy, ?_⟩
      conv => whnf
      ((try ((refine Exists.intro none ?_); (conv => whnf))); first | ((with_reducible refine call_by (kc) ?_); conv => whnf))
      ((first | (with_reducible refine split_dec (fun h => ?_) (fun h => ?_)) | (with_reducible refine split_beq (fun h => ?_) (fun h => ?_)) | (with_reducible refine split_bne (fun h => ?_) (fun h => ?_)) | (with_reducible refine split_not (fun h => ?_) (fun h => ?_)) | (with_reducible refine split_beqS (fun h => ?_) (fun h => ?_)) | (with_reducible refine split_intro (fun h => ?_) (fun h => ?_))) <;> conv => whnf)
      · rw [if_pos h] at hk
        have hlm : (l.map Pl.enc).length = l.length := List.length_map ..
        have hy2 : (((arrJ s x rest (q + 1)).map Pl.enc).set (0 + ((q + 1 : Nat) : Int).toNat) y.enc)[0 + ((q : Nat) : Int).toNat]? = some y.enc := by
          rw [List.getElem?_set_ne (by simp)]; exact hy
        rw [e1]
        refine ⟨⟨by omega, by omega⟩, ?_⟩
        conv => whnf
        refine ⟨_, hy, ?_⟩
        conv => whnf
        refine ⟨⟨by omega, by omega⟩, ?_⟩
        conv => whnf
        refine ⟨_, hx, ?_⟩
        conv => whnf
        refine ⟨⟨by omega, by omega⟩, ?_⟩
        conv => whnf
        refine ⟨_, hx, ?_⟩
        conv => whnf
        refine ⟨⟨by omega, by omega⟩, ?_⟩
        conv => whnf
        refine ⟨_, hy2, ?_⟩
        conv => whnf
        refine ⟨q, [(1000000, 1000000)], ⟨⟨by omega, by rw [hinv, hk]⟩, by omega⟩, ?_⟩
        conv => whnf
        (refine And.intro (And.intro (by with_unfolding_all rfl) (by intro q h; cases h)) ?_; refine And.intro ?_ (And.intro ?_ ?_) <;> (conv => whnf) <;> (repeat' (first | exact True.intro | (with_reducible exact rfl) | exact (rfl : List.replicate 0 PV.bad = []) | ((with_reducible refine And.intro ?_ ?_) <;> (first | (with_reducible exact wkV_same _ rfl) | exact wkV_pt rfl rfl | exact wkV_ow rfl rfl rfl | (refine wkV_ow rfl rfl ?_) | (refine wkV_sc (congrArg (Value.int .i64) ?_)) | (refine wkV_sc (congrArg Value.bool ?_)) | exact wkV_ls rfl | ((refine wkV_cl ?_); conv => whnf) | ((refine wkV_tu ?_); conv => whnf) | ((refine wkV_ag ?_); conv => whnf) | (conv => whnf))))))
        all_goals first
          | exact e1
          | (refine obj_eq (by kernel_rfl) ?_; rw [Nat.zero_add, Nat.zero_add, Int.toNat_natCast, Int.toNat_natCast, ← hset, List.map_set, List.map_set]; done)
          | (refine obj_eq (by kernel_rfl) ?_; rw [Nat.zero_add, Nat.zero_add, Int.toNat_natCast, Int.toNat_natCast, ← hset, List.map_set, List.map_set]; rfl)
          | rfl | trace_state
      · rw [if_neg h] at hk
        refine ⟨i + 1, [(1000000, 1000000)], ⟨⟨by omega, by omega⟩, by omega⟩, ?_⟩
        rw [hsucc, hinv, hk]
        conv => whnf
        (refine And.intro (And.intro (by with_unfolding_all rfl) (by intro q h; cases h)) ?_; refine And.intro ?_ (And.intro ?_ ?_) <;> (conv => whnf) <;> (repeat' (first | exact True.intro | (with_reducible exact rfl) | exact (rfl : List.replicate 0 PV.bad = []) | ((with_reducible refine And.intro ?_ ?_) <;> (first | (with_reducible exact wkV_same _ rfl) | exact wkV_pt rfl rfl | exact wkV_ow rfl rfl rfl | (refine wkV_ow rfl rfl ?_) | (refine wkV_sc (congrArg (Value.int .i64) ?_)) | (refine wkV_sc (congrArg Value.bool ?_)) | exact wkV_ls rfl | ((refine wkV_cl ?_); conv => whnf) | ((refine wkV_tu ?_); conv => whnf) | ((refine wkV_ag ?_); conv => whnf) | (conv => whnf))))))
        all_goals first | exact w1 (by omega) | (refine obj_eq (by kernel_rfl) ?_; unfold arrJ; simp; done) | rfl | trace_state
    · obtain rfl : j = 0 := by omega
      refine ⟨i + 1, [(1000000, 1000000)], ⟨⟨by omega, by omega⟩, by omega⟩, ?_⟩
      rw [hsucc, hinv]
      conv => whnf
      (refine And.intro (And.intro (by with_unfolding_all rfl) (by intro q h; cases h)) ?_; refine And.intro ?_ (And.intro ?_ ?_) <;> (conv => whnf) <;> (repeat' (first | exact True.intro | (with_reducible exact rfl) | exact (rfl : List.replicate 0 PV.bad = []) | ((with_reducible refine And.intro ?_ ?_) <;> (first | (with_reducible exact wkV_same _ rfl) | exact wkV_pt rfl rfl | exact wkV_ow rfl rfl rfl | (refine wkV_ow rfl rfl ?_) | (refine wkV_sc (congrArg (Value.int .i64) ?_)) | (refine wkV_sc (congrArg Value.bool ?_)) | exact wkV_ls rfl | ((refine wkV_cl ?_); conv => whnf) | ((refine wkV_tu ?_); conv => whnf) | ((refine wkV_ag ?_); conv => whnf) | (conv => whnf))))))
      all_goals first | exact w1 (by omega) | (refine obj_eq (by kernel_rfl) ?_; unfold arrJ insK; simp; done) | rfl | trace_state
  · have e3 : arrI l i = sortA l := by
      rcases hi2 with h2 | ⟨h2, h3⟩
      · rw [ez, show i = l.length by omega]
      · subst h3
        have : l = [] := List.eq_nil_of_length_eq_zero h2
        subst this; rfl
    rw [e3]
    (refine ExitE.mk ⟨[(1000000, 1000000)], [], ?_⟩; (conv => whnf); (refine And.intro (And.intro (by with_unfolding_all rfl) (by intro q h; cases h)) ?_; refine And.intro ?_ (And.intro ?_ ?_) <;> (conv => whnf) <;> (repeat' (first | exact True.intro | (with_reducible exact rfl) | exact (rfl : List.replicate 0 PV.bad = []) | ((with_reducible refine And.intro ?_ ?_) <;> (first | (with_reducible exact wkV_same _ rfl) | exact wkV_pt rfl rfl | exact wkV_ow rfl rfl rfl | (refine wkV_ow rfl rfl ?_) | (refine wkV_sc (congrArg (Value.int .i64) ?_)) | (refine wkV_sc (congrArg Value.bool ?_)) | exact wkV_ls rfl | ((refine wkV_cl ?_); conv => whnf) | ((refine wkV_tu ?_); conv => whnf) | ((refine wkV_ag ?_); conv => whnf) | (conv => whnf)))))))
    all_goals first | rfl | trace_state
end Go.Proofs
