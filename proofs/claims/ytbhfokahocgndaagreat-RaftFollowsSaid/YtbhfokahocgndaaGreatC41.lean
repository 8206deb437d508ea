import Derived.Test.YtbhfokahocgndaaGreatC22
import Derived.Test.YtbhfokahocgndaaGreatC24
import Derived.Test.YtbhfokahocgndaaGreatC13
import Derived.Test.YtbhfokahocgndaaGreatC1
import Derived.Test.YtbhfokahocgndaaGreatC10
import Derived.Test.YtbhfokahocgndaaGreatPvN
/- Contracts of functions: a log's own twin, what begins, what is put. -/
set_option linter.unusedSimpArgs false
set_option linter.unusedVariables false
namespace Go.Proofs
open Go.Pv
set_option maxRecDepth 100000

def lookedB (h : Hrd) : Bool := decide (0 ≤ h.base ∧ h.base ≤ 1099511627776)
/-- No hard state. -/
abbrev hzv : List PV := [iv 0, iv 0, iv 0, iv 0, iv 0, iv 0, iv 0, iv 0, .nl, .nl]
abbrev beginV (c : Conf) : List PV := [iv 0, iv (-1), iv 0, iv 0, iv c.full, iv c.wit, iv c.learn, iv c.lwit, .nl, .nl]
theorem c_twin (h : Hrd) (h1 : h.snap.length ≤ 4294967296) (h2 : h.log.length ≤ 4294967296) : Ctr Tryz.prog 167 [.ag h.enc] (.ag (h.own 0)) h.obs := by
  refine spec_of_body mixed Tryz.func167 rfl (by kernel_rfl) (by kernel_rfl) ?_; conv => whnf
  ((try ((refine Exists.intro none ?_); (conv => whnf))); first | ((with_reducible refine call_by (c_CloneBytes h.snap h1) ?_); conv => whnf))
  (refine Exists.intro _ (And.intro rfl (And.intro (by intro q hq; first | (cases hq; done) | (simp only [List.mem_cons, List.not_mem_nil, or_false] at hq; rcases hq with rfl | rfl <;> (simp only [List.length_cons, List.length_nil]; omega)) | (simp only [List.mem_cons, List.not_mem_nil, or_false] at hq; subst hq; simp only [List.length_cons, List.length_nil]; omega)) (And.intro (by intro i hi; simp only [List.length_cons, List.length_nil, Nat.lt_one_iff, Nat.zero_add] at hi; subst hi; rfl) ?_))); conv => whnf)
  ((try ((refine Exists.intro none ?_); (conv => whnf))); first | ((with_reducible refine call_by (c_CloneEntries h.log h2) ?_); conv => whnf))
  (refine Exists.intro _ (And.intro rfl (And.intro (by intro q hq; first | (cases hq; done) | (simp only [List.mem_cons, List.not_mem_nil, or_false] at hq; rcases hq with rfl | rfl <;> (simp only [List.length_cons, List.length_nil]; omega)) | (simp only [List.mem_cons, List.not_mem_nil, or_false] at hq; subst hq; simp only [List.length_cons, List.length_nil]; omega)) (And.intro (by intro i hi; simp only [List.length_cons, List.length_nil, Nat.lt_one_iff, Nat.zero_add] at hi; subst hi; rfl) ?_))); conv => whnf)
  refine exit_own [(0, 80), (1, 128)] rfl ⟨rfl, rfl, True.intro⟩ (wkV_ag ?_)
  conv => whnf
  repeat' (first | exact rfl | ((with_reducible refine And.intro ?_ ?_) <;> (first | (with_reducible exact wkV_same _ rfl) | exact wkV_ow rfl rfl rfl | (conv => whnf))))

/-! Put. -/
/-- The entries behind an index, and those that are put there. -/
def putM : List Ent → List Ent → List Ent
  | g, [] => g
  | [], x :: l => x :: l
  | y :: g, x :: l => if y.term = x.term then y :: putM g l else x :: l
def putG (g : List Ent) (n : Nat) (l : List Ent) : List Ent := g.take n ++ putM (g.drop n) l
def putH (h : Hrd) (i : Int) (l : List Ent) : Hrd := { h with log := putG h.log (i - h.base).toNat l }

/-- Alike up to j. -/
def alike (g : List Ent) (n : Nat) (l : List Ent) (j : Nat) : Prop := ∀ k, k < j → ∃ h1 : n + k < g.length, ∃ h2 : k < l.length, (g[n + k]'h1).term = (l[k]'h2).term
theorem putM_all : ∀ (g l : List Ent), (∀ k, k < l.length → ∃ h1 : k < g.length, ∃ h2 : k < l.length, (g[k]'h1).term = (l[k]'h2).term) → putM g l = g
  | g, [], _ => by cases g <;> rfl
  | [], x :: l, h => by obtain ⟨h1, _⟩ := h 0 (by simp); simp at h1
  | y :: g, x :: l, h => by
    obtain ⟨_, _, h0⟩ := h 0 (by simp)
    simp only [List.getElem_cons_zero] at h0
    rw [putM, if_pos h0, putM_all g l]
    intro k hk
    obtain ⟨h1, h2, h3⟩ := h (k + 1) (by simpa using hk)
    simp only [List.getElem_cons_succ] at h3
    exact ⟨by simpa using h1, hk, h3⟩
theorem putM_at : ∀ (g l : List Ent) (j : Nat), (∀ k, k < j → ∃ h1 : k < g.length, ∃ h2 : k < l.length, (g[k]'h1).term = (l[k]'h2).term) → (hj : j < l.length) → (∀ h1 : j < g.length, (g[j]'h1).term ≠ (l[j]'hj).term) → putM g l = g.take j ++ l.drop j
  | g, [], j, _, hj, _ => by simp at hj
  | [], x :: l, 0, _, _, _ => rfl
  | [], x :: l, j + 1, h, _, _ => by obtain ⟨h1, _⟩ := h 0 (by omega); simp at h1
  | y :: g, x :: l, 0, _, _, hn => by
    have := hn (by simp)
    simp only [List.getElem_cons_zero] at this
    rw [putM, if_neg this]; rfl
  | y :: g, x :: l, j + 1, h, hj, hn => by
    obtain ⟨_, _, h0⟩ := h 0 (by omega)
    simp only [List.getElem_cons_zero] at h0
    rw [putM, if_pos h0, putM_at g l j ?_ (by simpa using hj) ?_]
    · rfl
    · intro k hk
      obtain ⟨h1, h2, h3⟩ := h (k + 1) (by omega)
      simp only [List.getElem_cons_succ] at h3
      exact ⟨by simpa using h1, by simpa using h2, h3⟩
    · intro h1
      have := hn (by simpa using h1)
      simpa using this
theorem putG_all {g l : List Ent} {n : Nat} (h : alike g n l l.length) : putG g n l = g := by
  unfold putG
  rw [putM_all, List.take_append_drop]
  intro k hk
  obtain ⟨h1, h2, h3⟩ := h k hk
  exact ⟨by rw [List.length_drop]; omega, h2, by rw [List.getElem_drop]; exact h3⟩
theorem putG_at {g l : List Ent} {n j : Nat} (h : alike g n l j) (hn : n ≤ g.length) (hj : j < l.length) (hd : ∀ h1 : n + j < g.length, (g[n + j]'h1).term ≠ (l[j]'hj).term) : putG g n l = g.take (n + j) ++ l.drop j := by
  unfold putG
  rw [putM_at (g.drop n) l j ?_ hj ?_, ← List.append_assoc]
  · congr 1
    rw [List.take_add]
  · intro k hk
    obtain ⟨h1, h2, h3⟩ := h k hk
    exact ⟨by rw [List.length_drop]; omega, h2, by rw [List.getElem_drop]; exact h3⟩
  · intro h1
    rw [List.getElem_drop]
    exact hd (by rw [List.length_drop] at h1; omega)

noncomputable def putHE (h : Hrd) (i : Int) (l : List Ent) : Int := if hardB h = true then (if (h.base ≤ i ∧ i ≤ lastI h) ∧ rowB l (termAt h i) h.term = true then 0 else 1) else 6
theorem putHE_inv {h : Hrd} {i : Int} {l : List Ent} (e : putHE h i l = 0) : hardB h = true ∧ (h.base ≤ i ∧ i ≤ lastI h) ∧ rowB l (termAt h i) h.term = true := by
  unfold putHE at e
  by_cases h1 : hardB h = true
  · rw [if_pos h1] at e
    by_cases h2 : (h.base ≤ i ∧ i ≤ lastI h) ∧ rowB l (termAt h i) h.term = true
    · exact ⟨h1, h2⟩
    · rw [if_neg h2] at e; omega
  · rw [if_neg h1] at e; omega
/-- A hard state, or none and an error. -/
def resV (e : Int) (x : Hrd) : PV := if e = 0 then .tu [.ag (x.own 0), iv 0] else .tu [.ag hzv, iv e]
def resO (e : Int) (x : Hrd) : List (Nat × List (List PV)) := if e = 0 then x.obs else []
def resW (e : Int) (x : Hrd) : PV := if e = 0 then .tu [.ag x.enc, iv 0] else .tu [.ag hzv, iv e]
theorem res_ok {e : Int} {x : Hrd} (he : e = 0) : resV e x = .tu [.ag (x.own 0), iv 0] ∧ resO e x = x.obs ∧ resW e x = .tu [.ag x.enc, iv 0] := by
  subst he; exact ⟨rfl, rfl, rfl⟩
theorem res_no {e : Int} {x : Hrd} (he : ¬ e = 0) : resV e x = .tu [.ag hzv, iv e] ∧ resO e x = [] ∧ resW e x = .tu [.ag hzv, iv e] := by
  unfold resV resO resW
  rw [if_neg he, if_neg he, if_neg he]; exact ⟨rfl, rfl, rfl⟩
theorem hardB_A {h : Hrd} (e : hardB h = true) : HardA h ∧ confB h.baseConf = true ∧ (h.snap.length ≤ 16384 ∧ (0 < h.base ∨ h.snap.length = 0)) ∧ rowB h.log h.baseTerm h.term = true := by
  unfold hardB at e
  simp only [Bool.and_eq_true, decide_eq_true_eq] at e
  obtain ⟨e1, e2, e3, e4⟩ := e
  refine ⟨?_, e2, e3, e4⟩
  apply Classical.byContradiction
  intro hn
  rw [dec_false hn] at e1; cases e1
end Go.Proofs

/- Contracts of functions: logs.Put. -/
namespace Go.Proofs
open Go.Pv
set_option maxRecDepth 100000

theorem lastI_sum {h : Hrd} (hb : 0 ≤ h.base) (hs : h.base + h.log.length < 9223372036854775808) : lastI h = h.base + h.log.length := by
  unfold lastI
  split
  · omega
  · exact wrap_id (by omega) (by omega)
theorem alike_0 (g : List Ent) (n : Nat) (l : List Ent) : alike g n l 0 := fun k hk => absurd hk (Nat.not_lt_zero _)
theorem alike_succ {g : List Ent} {n : Nat} {l : List Ent} {j : Nat} (h : alike g n l j) (h1 : n + j < g.length) (h2 : j < l.length) (e : (g[n + j]'h1).term = (l[j]'h2).term) : alike g n l (j + 1) := by
  intro k hk
  by_cases ek : k = j
  · subst ek; exact ⟨h1, h2, e⟩
  · exact h k (by omega)
theorem alike_le {g : List Ent} {n : Nat} {l : List Ent} {j : Nat} (h : alike g n l j) (hn : n ≤ g.length) : n + j ≤ g.length := by
  by_cases ek : j = 0
  · omega
  · obtain ⟨h1, _⟩ := h (j - 1) (by omega); omega

set_option maxHeartbeats 4000000 in
theorem c_lPut (a : Hrd) (h1 : a.snap.length ≤ 4294967296) (h2 : a.log.length ≤ 4294967) (hb : isI a.base) (i : Int) (hi : isI i) (l : List Ent) (h3 : l.length ≤ 4294967) :
    Ctr Tryz.prog 161 [.ag a.enc, iv i, .sl 16 (l.map Ent.enc)] (resV (putHE a i l) (putH a i l)) (resO (putHE a i l) (putH a i l)) := by
  have hm : a.log.length ≤ maxLen := smallM (by omega)
  have hml : l.length ≤ maxLen := smallM (by omega)
  have hck := c_lCheck a hm
  by_cases hB : hardB a = true
  · rw [hB] at hck
    simp only [if_true] at hck
    have hA := (hardB_A hB).1
    have hb0 := hA.b
    have hla : lastI a = a.base + a.log.length := lastI_sum hb0.1 (by omega)
    have hr := c_rightEntries l hml (termAt a i) a.term
    by_cases hk : (a.base ≤ i ∧ i ≤ lastI a) ∧ rowB l (termAt a i) a.term = true
    · have e : putHE a i l = 0 := by unfold putHE; rw [if_pos hB, if_pos hk]
      rw [(res_ok e).1, (res_ok e).2.1]
      rw [hk.2] at hr
      obtain ⟨⟨hk1, hk2⟩, _⟩ := hk
      generalize hn : (i - a.base).toNat = n
      have hn' : i - a.base = (n : Int) := by omega
      have hnl : n ≤ a.log.length := by omega
      refine spec_of_body mixed Tryz.func161 rfl (by kernel_rfl) (by kernel_rfl) ?_; conv => whnf
      ((try ((refine Exists.intro none ?_); (conv => whnf))); first | ((with_reducible refine call_by (hck) ?_); conv => whnf))
      ((try ((refine Exists.intro none ?_); (conv => whnf))); first | ((with_reducible refine call_by (c_Last a hm) ?_); conv => whnf))
      ((first | (with_reducible refine split_dec (fun h => ?_) (fun h => ?_)) | (with_reducible refine split_beq (fun h => ?_) (fun h => ?_)) | (with_reducible refine split_bne (fun h => ?_) (fun h => ?_)) | (with_reducible refine split_not (fun h => ?_) (fun h => ?_)) | (with_reducible refine split_beqS (fun h => ?_) (fun h => ?_)) | (with_reducible refine split_intro (fun h => ?_) (fun h => ?_))) <;> conv => whnf)
      · exfalso; omega
      ((first | (with_reducible refine split_dec (fun h => ?_) (fun h => ?_)) | (with_reducible refine split_beq (fun h => ?_) (fun h => ?_)) | (with_reducible refine split_bne (fun h => ?_) (fun h => ?_)) | (with_reducible refine split_not (fun h => ?_) (fun h => ?_)) | (with_reducible refine split_beqS (fun h => ?_) (fun h => ?_)) | (with_reducible refine split_intro (fun h => ?_) (fun h => ?_))) <;> conv => whnf)
      · exfalso; omega
      ((try ((refine Exists.intro none ?_); (conv => whnf))); first | ((with_reducible refine call_by (c_Term a hm hb i hi) ?_); conv => whnf))
      ((try ((refine Exists.intro none ?_); (conv => whnf))); first | ((with_reducible refine call_by (hr) ?_); conv => whnf))
      ((try ((refine Exists.intro none ?_); (conv => whnf))); first | ((with_reducible refine call_by (c_twin a h1 (by omega)) ?_); conv => whnf))
      (refine Exists.intro _ (And.intro rfl (And.intro (by intro q hq; first | (cases hq; done) | (simp only [List.mem_cons, List.not_mem_nil, or_false] at hq; rcases hq with rfl | rfl <;> (simp only [List.length_cons, List.length_nil]; omega)) | (simp only [List.mem_cons, List.not_mem_nil, or_false] at hq; subst hq; simp only [List.length_cons, List.length_nil]; omega)) (And.intro (by intro i hi; rcases i with _ | _ | i; rfl; rfl; exact absurd hi (by simp)) ?_))); conv => whnf)
      refine tri_forO mixed (by kernel_rfl) (fun j : Nat => j ≤ l.length ∧ alike a.log n l j) (fun j => [(49, iv j)]) (fun _ => [(3, a.own 736), (6, hzv)]) (fun _ => [(736, some (false, 1, a.snap.map encB)), (737, some (false, 16, a.log.map Ent.enc))]) [(736, 736), (737, 737)] (fun j => l.length - j) 0 ⟨Nat.zero_le _, alike_0 _ _ _⟩ ?_ ?_
      · conv => whnf
        (refine And.intro (And.intro (by with_unfolding_all rfl) (by intro q h; cases h)) ?_; refine And.intro ?_ (And.intro ?_ ?_) <;> (conv => whnf) <;> (repeat' (first | exact True.intro | (with_reducible exact rfl) | exact (rfl : List.replicate 0 PV.bad = []) | ((with_reducible refine And.intro ?_ ?_) <;> (first | (with_reducible exact wkV_same _ rfl) | exact wkV_pt rfl rfl | exact wkV_ow rfl rfl rfl | (refine wkV_ow rfl rfl ?_) | (refine wkV_sc (congrArg (Value.int .i64) ?_)) | (refine wkV_sc (congrArg Value.bool ?_)) | exact wkV_ls rfl | ((refine wkV_cl ?_); conv => whnf) | ((refine wkV_tu ?_); conv => whnf) | ((refine wkV_ag ?_); conv => whnf) | (conv => whnf))))))
        all_goals rfl
      rintro j ⟨hj, hal⟩
      have hle := alike_le hal hnl
      conv => whnf
      ((first | (with_reducible refine split_dec (fun h => ?_) (fun h => ?_)) | (with_reducible refine split_beq (fun h => ?_) (fun h => ?_)) | (with_reducible refine split_bne (fun h => ?_) (fun h => ?_)) | (with_reducible refine split_not (fun h => ?_) (fun h => ?_)) | (with_reducible refine split_beqS (fun h => ?_) (fun h => ?_)) | (with_reducible refine split_intro (fun h => ?_) (fun h => ?_))) <;> conv => whnf)
      · simp only [List.length_map] at h
        have hlt : j < l.length := by omega
        (first | ((with_reducible refine And.intro (by omega) (Exists.intro _ (And.intro (row_at hlt) ?_))); conv => whnf))
        have e1 : IntKind.i64.wrap (IntKind.i64.wrap (i - a.base) + (j : Int)) = ((n + j : Nat) : Int) := by
          rw [hn', show IntKind.i64.wrap (n : Int) = (n : Int) from wrap_id (by omega) (by omega), wrap_id (by omega) (by omega)]; omega
        rw [e1]
        ((first | (with_reducible refine split_dec (fun h => ?_) (fun h => ?_)) | (with_reducible refine split_beq (fun h => ?_) (fun h => ?_)) | (with_reducible refine split_bne (fun h => ?_) (fun h => ?_)) | (with_reducible refine split_not (fun h => ?_) (fun h => ?_)) | (with_reducible refine split_beqS (fun h => ?_) (fun h => ?_)) | (with_reducible refine split_intro (fun h => ?_) (fun h => ?_))) <;> conv => whnf)
        · simp only [List.length_map] at h
          have hat : n + j < a.log.length := by omega
          have hrow : (a.log.map Ent.enc)[0 + ((n + j : Nat) : Int).toNat]? = some ((a.log[n + j]'hat).enc) := by
            rw [Nat.zero_add]; exact row_at hat
          refine ⟨⟨by omega, by simp only [List.length_map]; omega⟩, ?_⟩
          conv => whnf
          refine ⟨_, hrow, ?_⟩
          conv => whnf
          ((first | (with_reducible refine split_dec (fun h => ?_) (fun h => ?_)) | (with_reducible refine split_beq (fun h => ?_) (fun h => ?_)) | (with_reducible refine split_bne (fun h => ?_) (fun h => ?_)) | (with_reducible refine split_not (fun h => ?_) (fun h => ?_)) | (with_reducible refine split_beqS (fun h => ?_) (fun h => ?_)) | (with_reducible refine split_intro (fun h => ?_) (fun h => ?_))) <;> conv => whnf)
          · refine ⟨j + 1, [(736, 736), (737, 737)], ⟨⟨by omega, alike_succ hal hat hlt h⟩, by omega⟩, ?_⟩
            conv => whnf
            (refine And.intro (And.intro (by with_unfolding_all rfl) (by intro q h; cases h)) ?_; refine And.intro ?_ (And.intro ?_ ?_) <;> (conv => whnf) <;> (repeat' (first | exact True.intro | (with_reducible exact rfl) | exact (rfl : List.replicate 0 PV.bad = []) | ((with_reducible refine And.intro ?_ ?_) <;> (first | (with_reducible exact wkV_same _ rfl) | exact wkV_pt rfl rfl | exact wkV_ow rfl rfl rfl | (refine wkV_ow rfl rfl ?_) | (refine wkV_sc (congrArg (Value.int .i64) ?_)) | (refine wkV_sc (congrArg Value.bool ?_)) | exact wkV_ls rfl | ((refine wkV_cl ?_); conv => whnf) | ((refine wkV_tu ?_); conv => whnf) | ((refine wkV_ag ?_); conv => whnf) | (conv => whnf))))))
            all_goals first | exact w1 (by omega) | rfl
          · have hd : ∀ h1 : n + j < a.log.length, (a.log[n + j]'h1).term ≠ (l[j]'hlt).term := fun _ => h
            refine ⟨⟨by omega, by omega, by simp only [List.length_map]; omega⟩, ?_⟩
            conv => whnf
            refine ⟨⟨by omega, by simp only [List.length_map]; omega⟩, ?_⟩
            conv => whnf
            refine ⟨by kernel_rfl, ?_⟩
            conv => whnf
            rw [Int.toNat_natCast, Int.toNat_natCast]
            have er : List.drop j (List.take (((List.map Ent.enc l).length : Nat) : Int).toNat (List.map Ent.enc l)) = (l.drop j).map Ent.enc := by rw [Int.toNat_natCast, List.take_length, List.map_drop]
            rw [er, show n + j - Int.toNat 0 = n + j from rfl]
            refine ⟨⟨⟨by kernel_rfl, by rw [List.length_map]; omega, small (by rw [List.length_map, List.length_drop]; omega) (by kernel_rfl), smallM (by rw [List.length_map, List.length_drop]; omega), by intro r hr; obtain ⟨x, _, rfl⟩ := List.mem_map.1 hr; rfl⟩, by decide, rfl⟩, ?_⟩
            conv => whnf
            have ep : putH a i l = { a with log := a.log.take (n + j) ++ l.drop j } := by
              unfold putH; rw [hn, putG_at hal hnl hlt hd]
            rw [ep]
            refine exit_own [(0, 736), (1, 1328)] rfl ⟨rfl, ?_, True.intro⟩ (wkV_tu ⟨wkV_ag ?_, wkV_same _ rfl, rfl⟩)
            · refine obj_eq (by kernel_rfl) ?_
              simp only [List.map_append, List.map_take]
            conv => whnf
            repeat' (first | exact rfl | ((with_reducible refine And.intro ?_ ?_) <;> (first | (with_reducible exact wkV_same _ rfl) | exact wkV_ow rfl rfl rfl | (refine wkV_ow rfl rfl ?_; simp only [List.map_append, List.length_append, List.length_map, List.length_take, Nat.min_eq_left hle]; done) | (conv => whnf))))
        · simp only [List.length_map] at h
          have hat : ¬ n + j < a.log.length := by omega
          have hd : ∀ h1 : n + j < a.log.length, (a.log[n + j]'h1).term ≠ (l[j]'hlt).term := fun h1 => absurd h1 hat
          refine ⟨⟨by omega, by omega, by simp only [List.length_map]; omega⟩, ?_⟩
          conv => whnf
          refine ⟨⟨by omega, by simp only [List.length_map]; omega⟩, ?_⟩
          conv => whnf
          refine ⟨by kernel_rfl, ?_⟩
          conv => whnf
          rw [Int.toNat_natCast, Int.toNat_natCast]
          have er : List.drop j (List.take (((List.map Ent.enc l).length : Nat) : Int).toNat (List.map Ent.enc l)) = (l.drop j).map Ent.enc := by rw [Int.toNat_natCast, List.take_length, List.map_drop]
          rw [er, show n + j - Int.toNat 0 = n + j from rfl]
          refine ⟨⟨⟨by kernel_rfl, by rw [List.length_map]; omega, small (by rw [List.length_map, List.length_drop]; omega) (by kernel_rfl), smallM (by rw [List.length_map, List.length_drop]; omega), by intro r hr; obtain ⟨x, _, rfl⟩ := List.mem_map.1 hr; rfl⟩, by decide, rfl⟩, ?_⟩
          conv => whnf
          have ep : putH a i l = { a with log := a.log.take (n + j) ++ l.drop j } := by
            unfold putH; rw [hn, putG_at hal hnl hlt hd]
          rw [ep]
          refine exit_own [(0, 736), (1, 1328)] rfl ⟨rfl, ?_, True.intro⟩ (wkV_tu ⟨wkV_ag ?_, wkV_same _ rfl, rfl⟩)
          · refine obj_eq (by kernel_rfl) ?_
            simp only [List.map_append, List.map_take]
          conv => whnf
          repeat' (first | exact rfl | ((with_reducible refine And.intro ?_ ?_) <;> (first | (with_reducible exact wkV_same _ rfl) | exact wkV_ow rfl rfl rfl | (refine wkV_ow rfl rfl ?_; simp only [List.map_append, List.length_append, List.length_map, List.length_take, Nat.min_eq_left hle]; done) | (conv => whnf))))
      · simp only [List.length_map] at h
        have ej : j = l.length := by omega
        subst ej
        have ep : putH a i l = a := by
          unfold putH; rw [hn, putG_all hal]
        rw [ep]
        refine exit_own [(0, 736), (1, 737)] rfl ⟨rfl, rfl, True.intro⟩ (wkV_tu ⟨wkV_ag ?_, wkV_same _ rfl, rfl⟩)
        conv => whnf
        repeat' (first | exact rfl | ((with_reducible refine And.intro ?_ ?_) <;> (first | (with_reducible exact wkV_same _ rfl) | exact wkV_ow rfl rfl rfl | (conv => whnf))))
    · have e : putHE a i l = 1 := by unfold putHE; rw [if_pos hB, if_neg hk]
      rw [e, (res_no (by decide)).1, (res_no (by decide)).2.1]
      refine spec_of_body mixed Tryz.func161 rfl (by kernel_rfl) (by kernel_rfl) ?_; conv => whnf
      ((try ((refine Exists.intro none ?_); (conv => whnf))); first | ((with_reducible refine call_by (hck) ?_); conv => whnf))
      ((try ((refine Exists.intro none ?_); (conv => whnf))); first | ((with_reducible refine call_by (c_Last a hm) ?_); conv => whnf))
      ((first | (with_reducible refine split_dec (fun h => ?_) (fun h => ?_)) | (with_reducible refine split_beq (fun h => ?_) (fun h => ?_)) | (with_reducible refine split_bne (fun h => ?_) (fun h => ?_)) | (with_reducible refine split_not (fun h => ?_) (fun h => ?_)) | (with_reducible refine split_beqS (fun h => ?_) (fun h => ?_)) | (with_reducible refine split_intro (fun h => ?_) (fun h => ?_))) <;> conv => whnf)
      · exact exit_plain rfl rfl
      ((first | (with_reducible refine split_dec (fun h => ?_) (fun h => ?_)) | (with_reducible refine split_beq (fun h => ?_) (fun h => ?_)) | (with_reducible refine split_bne (fun h => ?_) (fun h => ?_)) | (with_reducible refine split_not (fun h => ?_) (fun h => ?_)) | (with_reducible refine split_beqS (fun h => ?_) (fun h => ?_)) | (with_reducible refine split_intro (fun h => ?_) (fun h => ?_))) <;> conv => whnf)
      · exact exit_plain rfl rfl
      ((try ((refine Exists.intro none ?_); (conv => whnf))); first | ((with_reducible refine call_by (c_Term a hm hb i hi) ?_); conv => whnf))
      have hf : rowB l (termAt a i) a.term = false := by
        cases hrb : rowB l (termAt a i) a.term with
        | false => rfl
        | true => exact absurd ⟨⟨by omega, by omega⟩, hrb⟩ hk
      rw [hf] at hr
      ((try ((refine Exists.intro none ?_); (conv => whnf))); first | ((with_reducible refine call_by (hr) ?_); conv => whnf))
      exact exit_plain rfl rfl
  · have e : putHE a i l = 6 := by unfold putHE; rw [if_neg hB]
    rw [e, (res_no (by decide)).1, (res_no (by decide)).2.1]
    simp only [Bool.not_eq_true] at hB
    rw [hB] at hck
    simp only [Bool.false_eq_true, if_false] at hck
    refine spec_of_body mixed Tryz.func161 rfl (by kernel_rfl) (by kernel_rfl) ?_; conv => whnf
    ((try ((refine Exists.intro none ?_); (conv => whnf))); first | ((with_reducible refine call_by (hck) ?_); conv => whnf))
    exact exit_plain rfl rfl
end Go.Proofs

/- Contracts of functions: the logs' wake. -/
namespace Go.Proofs
open Go.Pv
set_option maxRecDepth 100000

abbrev w09 (l : List Ent) : Hrd := ⟨3, -1, 0, 0, ⟨1, 0, 0, 0⟩, [], l⟩
end Go.Proofs

/- Plain law: what is put is there. -/
namespace Go.Proofs
open Go.Pv
set_option maxRecDepth 100000

def alikeB : List Ent → List Ent → Nat → Bool
  | _, _, 0 => true
  | y :: g, x :: l, j + 1 => (y.term == x.term) && alikeB g l j
  | _, _, _ + 1 => false
theorem putM_term : ∀ (g l : List Ent) (k : Nat) (h : k < l.length), ∃ a, (putM g l)[k]? = some a ∧ a.term = (l[k]'h).term
  | g, [], k, h => by simp at h
  | [], x :: l, k, h => ⟨(x :: l)[k], by simp [putM, h], rfl⟩
  | y :: g, x :: l, k, h => by
    by_cases e : y.term = x.term
    · rw [putM, if_pos e]
      cases k with
      | zero => exact ⟨y, rfl, e⟩
      | succ k =>
        obtain ⟨a, h1, h2⟩ := putM_term g l k (by simpa using h)
        exact ⟨a, by simpa using h1, by simpa using h2⟩
    · rw [putM, if_neg e]
      exact ⟨(x :: l)[k], by simp [h], rfl⟩
theorem putM_self (l : List Ent) : putM l l = l := putM_all l l fun k hk => ⟨hk, hk, rfl⟩
theorem putM_twice : ∀ g l : List Ent, putM (putM g l) l = putM g l
  | g, [] => by cases g <;> rfl
  | [], x :: l => by rw [putM]; exact putM_self _
  | y :: g, x :: l => by
    by_cases e : y.term = x.term
    · rw [putM, if_pos e, putM, if_pos e, putM_twice g l]
    · rw [putM, if_neg e]; exact putM_self _
theorem rowB_putM : ∀ (g l : List Ent) (b t : Int), rowB g b t = true → rowB l b t = true → rowB (putM g l) b t = true
  | g, [], b, t, h, _ => by
    have : putM g [] = g := by cases g <;> rfl
    rw [this]; exact h
  | [], x :: l, b, t, _, h => by rw [putM]; exact h
  | y :: g, x :: l, b, t, h1, h2 => by
    by_cases e : y.term = x.term
    · rw [putM, if_pos e]
      simp only [rowB, Bool.and_eq_true] at h1 h2 ⊢
      exact ⟨h1.1, rowB_putM g l y.term t h1.2 (by rw [e]; exact h2.2)⟩
    · rw [putM, if_neg e]; exact h2

theorem behind_cons (x : Ent) (g : List Ent) (b : Int) (n : Nat) : behind (x :: g) b (n + 1) = behind g x.term n := by
  cases n with
  | zero => simp [behind]
  | succ n =>
    cases g with
    | nil => simp [behind]
    | cons y g =>
      simp only [behind, List.take_succ_cons, List.getLast?_cons_cons]
      cases he : (y :: List.take n g).getLast? with
      | none => simp at he
      | some z => rfl
theorem rowB_append : ∀ (g k : List Ent) (b t : Int), rowB (g ++ k) b t = (rowB g b t && rowB k (behind g b g.length) t)
  | [], k, b, t => by simp [rowB, behind]
  | x :: g, k, b, t => by
    simp only [List.cons_append, rowB, rowB_append g k, List.length_cons, behind_cons, Bool.and_assoc]
theorem behind_take (g : List Ent) (b : Int) (n : Nat) (hn : n ≤ g.length) : behind (g.take n) b (g.take n).length = behind g b n := by
  unfold behind
  rw [List.take_length]
theorem rowB_putG {g l : List Ent} {b t : Int} {n : Nat} (hn : n ≤ g.length) (h1 : rowB g b t = true) (h2 : rowB l (behind g b n) t = true) : rowB (putG g n l) b t = true := by
  unfold putG
  have h := h1
  rw [← List.take_append_drop n g, rowB_append, Bool.and_eq_true, behind_take g b n hn] at h
  rw [rowB_append, Bool.and_eq_true, behind_take g b n hn]
  exact ⟨h.1, rowB_putM _ _ _ _ h.2 h2⟩

theorem entAt_nat {h : Hrd} {j : Int} {m : Nat} (e : j = h.base + 1 + m) : entAt h j = h.log[m]? := by
  by_cases hm : m < h.log.length
  · rw [entAt_some (by omega) (by omega), List.getElem?_eq_getElem hm]
    congr 2
    omega
  · rw [entAt_none (by omega), List.getElem?_eq_none (by omega)]
theorem termAt_nat {h : Hrd} {j : Int} {n : Nat} (e : j = h.base + n) (hn : n ≤ h.log.length) : termAt h j = behind h.log h.baseTerm n := by
  unfold termAt
  cases n with
  | zero => rw [if_pos (by omega), behind_0]
  | succ n =>
    rw [if_neg (by omega), entAt_nat (m := n) (by omega), List.getElem?_eq_getElem (by omega), behind_succ (by omega)]
theorem putG_take (g l : List Ent) {n : Nat} (hn : n ≤ g.length) : (putG g n l).take n = g.take n := by
  unfold putG
  rw [List.take_append_of_le_length (by simp; omega), List.take_take, Nat.min_self]
theorem putG_drop (g l : List Ent) {n : Nat} (hn : n ≤ g.length) : (putG g n l).drop n = putM (g.drop n) l := by
  unfold putG
  rw [List.drop_append_of_le_length (by simp; omega), List.drop_eq_nil_of_le (by simp; omega), List.nil_append]
theorem putG_len (g l : List Ent) {n : Nat} (hn : n ≤ g.length) : n ≤ (putG g n l).length := by
  unfold putG; simp; omega
theorem putM_len : ∀ g l : List Ent, (putM g l).length ≤ g.length + l.length ∧ l.length ≤ (putM g l).length
  | g, [] => by cases g <;> simp [putM]
  | [], x :: l => by simp [putM]
  | y :: g, x :: l => by
    have := putM_len g l
    rw [putM]
    split <;> simp only [List.length_cons] <;> omega
theorem putG_le (g l : List Ent) {n : Nat} (hn : n ≤ g.length) : (putG g n l).length ≤ g.length + l.length := by
  have := (putM_len (g.drop n) l).1
  unfold putG
  rw [List.length_append, List.length_take]
  rw [List.length_drop] at this
  omega
theorem putG_twice (g l : List Ent) {n : Nat} (hn : n ≤ g.length) : putG (putG g n l) n l = putG g n l := by
  show (putG g n l).take n ++ putM ((putG g n l).drop n) l = putG g n l
  rw [putG_take g l hn, putG_drop g l hn, putM_twice]; rfl

/-- What a put that is OK leaves. -/
structure PutOk (h : Hrd) (i : Int) (l : List Ent) (n : Nat) : Prop where
  hard : hardB h = true
  at' : i = h.base + n
  le : n ≤ h.log.length
  row : rowB l (behind h.log h.baseTerm n) h.term = true
theorem putOk {h : Hrd} {i : Int} {l : List Ent} (e : putHE h i l = 0) (hl : h.log.length ≤ 4294967) : ∃ n, PutOk h i l n := by
  obtain ⟨h1, h2, h3⟩ := putHE_inv e
  have hA := (hardB_A h1).1
  have := hA.b
  rw [lastI_sum this.1 (by omega)] at h2
  refine ⟨(i - h.base).toNat, h1, by omega, by omega, ?_⟩
  rw [← termAt_nat (h := h) (j := i) (by omega) (by omega)]
  exact h3
theorem PutOk.e {h : Hrd} {i : Int} {l : List Ent} {n : Nat} (k : PutOk h i l n) (hl : h.log.length ≤ 4294967) : putHE h i l = 0 := by
  have hA := (hardB_A k.hard).1
  have := hA.b
  have := k.at'
  have := k.le
  unfold putHE
  rw [if_pos k.hard, if_pos]
  refine ⟨?_, ?_⟩
  · rw [lastI_sum (by omega) (by omega)]; omega
  · rw [termAt_nat k.at' k.le]; exact k.row
theorem PutOk.log {h : Hrd} {i : Int} {l : List Ent} {n : Nat} (k : PutOk h i l n) : putH h i l = { h with log := putG h.log n l } := by
  have := k.at'
  unfold putH
  rw [show (i - h.base).toNat = n by omega]
theorem hardB_log {h : Hrd} (e : hardB h = true) {g : List Ent} (hg : rowB g h.baseTerm h.term = true) : hardB { h with log := g } = true := by
  obtain ⟨hA, h2, h3, _⟩ := hardB_A e
  unfold hardB
  rw [dec_true (show HardA { h with log := g } from ⟨hA.t, hA.v, hA.b, hA.bt, hA.z⟩)]
  simp only [h2, hg, h3, Bool.and_true, Bool.true_and, decide_eq_true_eq]
  simp
theorem PutOk.right {h : Hrd} {i : Int} {l : List Ent} {n : Nat} (k : PutOk h i l n) : hardB (putH h i l) = true := by
  rw [k.log]
  exact hardB_log k.hard (rowB_putG k.le (hardB_A k.hard).2.2.2 k.row)
theorem PutOk.again {h : Hrd} {i : Int} {l : List Ent} {n : Nat} (k : PutOk h i l n) : PutOk (putH h i l) i l n ∧ putH (putH h i l) i l = putH h i l := by
  have hr := k.right
  rw [k.log] at hr ⊢
  have k2 : PutOk { h with log := putG h.log n l } i l n := ⟨hr, k.at', putG_len _ _ k.le, by
    show rowB l (behind (putG h.log n l) h.baseTerm n) h.term = true
    rw [show behind (putG h.log n l) h.baseTerm n = behind h.log h.baseTerm n from by unfold behind; rw [putG_take _ _ k.le]]
    exact k.row⟩
  refine ⟨k2, ?_⟩
  rw [k2.log]
  simp only [putG_twice _ _ k.le]
end Go.Proofs

/- Plain law: what is put part by part is put at once. -/
namespace Go.Proofs
open Go.Pv
set_option maxRecDepth 100000

theorem putM_nil (g : List Ent) : putM g [] = g := by cases g <;> rfl
theorem putM_none (l : List Ent) : putM [] l = l := by cases l <;> rfl
theorem putM_split : ∀ (g l : List Ent) (k : Nat), k ≤ l.length → (putM g (l.take k)).take k ++ putM ((putM g (l.take k)).drop k) (l.drop k) = putM g l
  | g, l, 0, _ => by simp [putM_nil]
  | g, [], k + 1, h => by simp at h
  | [], x :: l, k + 1, h => by
    have h' : k ≤ l.length := by simpa using h
    have h1 : ((x :: l).take (k + 1)).length = k + 1 := by simp; omega
    rw [putM_none, putM_none, List.take_take, Nat.min_self, List.drop_eq_nil_of_le (by omega), putM_none, List.take_append_drop]
  | y :: g, x :: l, k + 1, h => by
    have h' : k ≤ l.length := by simpa using h
    by_cases e : y.term = x.term
    · rw [List.take_succ_cons, putM, if_pos e, List.take_succ_cons, List.drop_succ_cons, List.drop_succ_cons, List.cons_append, putM_split g l k h', putM, if_pos e]
    · have h1 : (x :: l.take k).length = k + 1 := by simp; omega
      rw [List.take_succ_cons, putM, if_neg e, List.take_of_length_le (by omega), List.drop_eq_nil_of_le (by omega), putM_none, List.drop_succ_cons, List.cons_append, List.take_append_drop, putM, if_neg e]

theorem putG_split {g l : List Ent} {n k : Nat} (hn : n ≤ g.length) (hk : k ≤ l.length) : putG (putG g n (l.take k)) (n + k) (l.drop k) = putG g n l := by
  have h1 : (g.take n).length = n := by simp; omega
  show (putG g n (l.take k)).take (n + k) ++ putM ((putG g n (l.take k)).drop (n + k)) (l.drop k) = g.take n ++ putM (g.drop n) l
  rw [← putM_split (g.drop n) l k hk, List.take_add, putG_take g _ hn, putG_drop g _ hn, List.append_assoc, ← List.drop_drop, putG_drop g _ hn]

theorem behind_put {g l : List Ent} {b : Int} {n k : Nat} (hn : n ≤ g.length) (hk : k ≤ l.length) : behind (putG g n (l.take k)) b (n + k) = behind (l.take k) (behind g b n) (l.take k).length := by
  have hl : (l.take k).length = k := by simp; omega
  rw [hl]
  cases k with
  | zero =>
    rw [Nat.add_zero, behind_0]
    unfold behind
    rw [putG_take g _ hn]
  | succ k =>
    have h3 := (putM_len (g.drop n) (l.take (k + 1))).2
    have h4 : n + k < (putG g n (l.take (k + 1))).length := by
      unfold putG
      rw [List.length_append, List.length_take]; omega
    rw [show n + (k + 1) = n + k + 1 from rfl, behind_succ h4, behind_succ (by omega)]
    obtain ⟨a, h5, h6⟩ := putM_term (g.drop n) (l.take (k + 1)) k (by omega)
    rw [← h6]
    have h7 : (putG g n (l.take (k + 1)))[n + k]? = some a := by
      rw [← List.getElem?_drop, putG_drop g _ hn, h5]
    rw [List.getElem?_eq_getElem h4, Option.some.injEq] at h7
    rw [h7]

theorem rowB_parts {l : List Ent} {b t : Int} (h : rowB l b t = true) (k : Nat) : rowB (l.take k) b t = true ∧ rowB (l.drop k) (behind (l.take k) b (l.take k).length) t = true := by
  rw [← List.take_append_drop k l, rowB_append, Bool.and_eq_true] at h
  exact h
theorem PutOk.part {h : Hrd} {i : Int} {l : List Ent} {n k : Nat} (o : PutOk h i l n) (hk : k ≤ l.length) : PutOk h i (l.take k) n ∧ PutOk (putH h i (l.take k)) (i + k) (l.drop k) (n + k) ∧ putH (putH h i (l.take k)) (i + k) (l.drop k) = putH h i l := by
  obtain ⟨r1, r2⟩ := rowB_parts o.row k
  have o1 : PutOk h i (l.take k) n := ⟨o.hard, o.at', o.le, r1⟩
  have hr := o1.right
  have hlog := o1.log
  have ha := o.at'
  have h3 := (putM_len (h.log.drop n) (l.take k)).2
  have h4 : (l.take k).length = k := by simp; omega
  have h5 : n + k ≤ (putG h.log n (l.take k)).length := by
    have := o.le
    unfold putG
    rw [List.length_append, List.length_take]; omega
  have o2 : PutOk (putH h i (l.take k)) (i + k) (l.drop k) (n + k) := ⟨hr, by show i + k = h.base + ((n + k : Nat) : Int); omega, by rw [hlog]; exact h5, by
    rw [hlog]
    show rowB (l.drop k) (behind (putG h.log n (l.take k)) h.baseTerm (n + k)) h.term = true
    rw [behind_put o.le hk]; exact r2⟩
  refine ⟨o1, o2, ?_⟩
  rw [o2.log, o.log, hlog]
  simp only [putG_split o.le hk]
end Go.Proofs

/- Contracts of functions: logs.From. -/
namespace Go.Proofs
open Go.Pv
set_option maxRecDepth 100000

def fromL (h : Hrd) (i m : Int) : List Ent := if h.base < i ∧ 1 ≤ m then (h.log.drop (i - h.base - 1).toNat).take m.toNat else []
theorem fromL_none {h : Hrd} {i m : Int} (he : entAt h i = none) : fromL h i m = [] := by
  unfold fromL
  split
  · rename_i hc
    by_cases h2 : i - h.base ≤ h.log.length
    · rw [entAt_some hc.1 h2] at he; cases he
    · rw [List.drop_eq_nil_of_le (by omega), List.take_nil]
  · rfl
theorem fromL_few {h : Hrd} {i m : Int} (hm : m < 1) : fromL h i m = [] := by
  unfold fromL; rw [if_neg (by omega)]
theorem entAt_inH {h : Hrd} {i : Int} {x : Ent} (he : entAt h i = some x) : h.base < i ∧ i - h.base ≤ h.log.length := by
  unfold entAt at he
  split at he
  · assumption
  · cases he

set_option maxHeartbeats 1000000 in
theorem c_lFrom (a : Hrd) (hl : a.log.length ≤ 4294967296) (hb : isI a.base) (i : Int) (hi : isI i) (m : Int) : Ctr Tryz.prog 163 [.ag a.enc, iv i, iv m] (.ow 0 0 ((fromL a i m).map Ent.enc).length) [(16, (fromL a i m).map Ent.enc)] := by
  have c0 := c_Entry a (smallM hl) hb i hi
  unfold isI at hb hi
  refine spec_of_body mixed Tryz.func163 rfl (by kernel_rfl) (by kernel_rfl) ?_; conv => whnf
  ((try ((refine Exists.intro none ?_); (conv => whnf))); first | ((with_reducible refine call_by (c0) ?_); conv => whnf))
  cases he : entAt a i with
  | none =>
    conv => whnf
    rw [fromL_none he]
    exact exit_nil 16
  | some x =>
    conv => whnf
    ((first | (with_reducible refine split_dec (fun h => ?_) (fun h => ?_)) | (with_reducible refine split_beq (fun h => ?_) (fun h => ?_)) | (with_reducible refine split_bne (fun h => ?_) (fun h => ?_)) | (with_reducible refine split_not (fun h => ?_) (fun h => ?_)) | (with_reducible refine split_beqS (fun h => ?_) (fun h => ?_)) | (with_reducible refine split_intro (fun h => ?_) (fun h => ?_))) <;> conv => whnf)
    · rw [fromL_few h]
      exact exit_nil 16
    obtain ⟨h1, h2⟩ := entAt_inH he
    obtain ⟨q, hq, hql⟩ : ∃ q : Nat, i - a.base - 1 = q ∧ q ≤ a.log.length := ⟨(i - a.base - 1).toNat, by omega, by omega⟩
    have e1 : IntKind.i64.wrap (IntKind.i64.wrap (i - a.base) - 1) = (q : Int) := by
      rw [show IntKind.i64.wrap (i - a.base) = i - a.base from wrap_id (by omega) (by omega), wrap_id (by omega) (by omega), hq]
    rw [e1]
    refine ⟨⟨by omega, by rw [List.length_map]; omega⟩, ?_⟩
    conv => whnf
    have e2 : List.drop (q : Int).toNat (List.take (((a.log.map Ent.enc).length : Nat) : Int).toNat (a.log.map Ent.enc)) = (a.log.drop q).map Ent.enc := by rw [Int.toNat_natCast, Int.toNat_natCast, List.take_length, List.map_drop]
    rw [e2]
    have e3 : fromL a i m = (a.log.drop q).take m.toNat := by
      unfold fromL; rw [if_pos ⟨h1, by omega⟩, hq, Int.toNat_natCast]
    rw [e3]
    generalize hD : a.log.drop q = D
    have hDl : D.length ≤ 4294967296 := by rw [← hD, List.length_drop]; omega
    obtain ⟨r, hr, hrt, hrl⟩ : ∃ r : Nat, (if (((D.map Ent.enc).length : Nat) : Int) < m then (((D.map Ent.enc).length : Nat) : Int) else m) = (r : Int) ∧ D.take m.toNat = D.take r ∧ r ≤ D.length := by
      rw [List.length_map]
      by_cases hc : (D.length : Int) < m
      · refine ⟨D.length, by rw [if_pos hc], ?_, Nat.le_refl _⟩
        rw [List.take_length, List.take_of_length_le (by omega)]
      · exact ⟨m.toNat, by rw [if_neg hc]; omega, rfl, by omega⟩
    rw [hr, hrt]
    refine ⟨⟨by omega, by omega, by rw [List.length_map]; omega⟩, ?_⟩
    conv => whnf
    refine Exists.intro none ?_
    conv => whnf
    have e4 : List.drop (Int.toNat 0) (List.take (r : Int).toNat (D.map Ent.enc)) = (D.take r).map Ent.enc := by rw [Int.toNat_natCast, List.map_take]; rfl
    rw [e4]
    have c1 := c_CloneEntries (D.take r) (by rw [List.length_take]; omega)
    ((try ((refine Exists.intro none ?_); (conv => whnf))); first | ((with_reducible refine call_by (c1) ?_); conv => whnf))
    (refine Exists.intro _ (And.intro rfl (And.intro (by intro q hq; first | (cases hq; done) | (simp only [List.mem_cons, List.not_mem_nil, or_false] at hq; rcases hq with rfl | rfl <;> (simp only [List.length_cons, List.length_nil]; omega)) | (simp only [List.mem_cons, List.not_mem_nil, or_false] at hq; subst hq; simp only [List.length_cons, List.length_nil]; omega)) (And.intro (by intro i hi; simp only [List.length_cons, List.length_nil, Nat.lt_one_iff, Nat.zero_add] at hi; subst hi; rfl) ?_))); conv => whnf)
    exact exit_own [(0, 576)] rfl ⟨rfl, True.intro⟩ (wkV_ow rfl rfl rfl)

theorem c_lFromV (a : Hrd) (hl : a.log.length ≤ 4294967296) (hb : isI a.base) (i : Int) (hi : isI i) (m : Int) : Ctr Tryz.prog 163 [.ag a.enc, iv i, iv m] (.sl 16 ((fromL a i m).map Ent.enc)) [] :=
  (c_lFrom a hl hb i hi m).frz (wkV_fz (.head _) rfl)

/-! Some entries, and those behind them. -/
end Go.Proofs
