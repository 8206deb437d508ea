import Derived.Test.YtnphfgphajejaaaC22
import Derived.Test.YtnphfgphajejaaaC6
/- Contracts of functions: logs that match, that agree (the program's). -/
set_option linter.unusedSimpArgs false
set_option linter.unusedVariables false
namespace Go.Proofs
open Go.Pv
set_option maxRecDepth 100000

def lkB (r : Rft) : Bool := withinB r.hard.base 0 1099511627776
theorem c_has (r : Rft) : Ctr Try.prog 210 [.ag r.enc] (bv (lkB r)) [] := by
  refine spec_of_body mixed Try.func210 rfl (by kernel_rfl) (by kernel_rfl) ?_; conv => whnf
  repeat' ((first | (with_reducible refine split_dec (fun h => ?_) (fun h => ?_)) | (with_reducible refine split_beq (fun h => ?_) (fun h => ?_)) | (with_reducible refine split_bne (fun h => ?_) (fun h => ?_)) | (with_reducible refine split_not (fun h => ?_) (fun h => ?_)) | (with_reducible refine split_beqS (fun h => ?_) (fun h => ?_)) | (with_reducible refine split_intro (fun h => ?_) (fun h => ?_))) <;> conv => whnf)
  all_goals (refine exit_plain rfl ?_; simp [lkB, withinB, *])
theorem c_logged (r : Rft) : Ctr Try.prog 212 [.ag r.enc] (bv (lkB r)) [] := by
  refine spec_of_body mixed Try.func212 rfl (by kernel_rfl) (by kernel_rfl) ?_; conv => whnf
  repeat' ((first | (with_reducible refine split_dec (fun h => ?_) (fun h => ?_)) | (with_reducible refine split_beq (fun h => ?_) (fun h => ?_)) | (with_reducible refine split_bne (fun h => ?_) (fun h => ?_)) | (with_reducible refine split_not (fun h => ?_) (fun h => ?_)) | (with_reducible refine split_beqS (fun h => ?_) (fun h => ?_)) | (with_reducible refine split_intro (fun h => ?_) (fun h => ?_))) <;> conv => whnf)
  all_goals (refine exit_plain rfl ?_; simp [lkB, withinB, *])

theorem lkB_iff {r : Rft} : lkB r = true ↔ 0 ≤ r.hard.base ∧ r.hard.base ≤ 1099511627776 := by simp [lkB, withinB]

abbrev entE (r : Rft) (k : Int) : Ent := (entAt r.hard k).getD ez

theorem c_aEntry (r : Rft) (hm : r.hard.log.length ≤ maxLen) (hb : isI r.hard.base) (hh : lkB r = true) (i : Int) (hi : isI i) : Ctr Try.prog 211 [.ag r.enc, iv i] (.tu [.ag (entE r i).enc, bv (entAt r.hard i).isSome]) [] := by
  have hc := c_has r
  rw [hh] at hc
  refine spec_of_body mixed Try.func211 rfl (by kernel_rfl) (by kernel_rfl) ?_; conv => whnf
  ((try ((refine Exists.intro none ?_); (conv => whnf))); first | ((with_reducible refine call_by (hc) ?_); conv => whnf))
  ((try ((refine Exists.intro none ?_); (conv => whnf))); first | ((with_reducible refine call_by (c_Entry r.hard hm hb i hi) ?_); conv => whnf))
  exact exit_plain rfl rfl
theorem c_aEntry0 (r : Rft) (hh : lkB r = false) (i : Int) : Ctr Try.prog 211 [.ag r.enc, iv i] (.tu [.ag ez.enc, bv false]) [] := by
  have hc := c_has r
  rw [hh] at hc
  refine spec_of_body mixed Try.func211 rfl (by kernel_rfl) (by kernel_rfl) ?_; conv => whnf
  ((try ((refine Exists.intro none ?_); (conv => whnf))); first | ((with_reducible refine call_by (hc) ?_); conv => whnf))
  exact exit_plain rfl rfl

/-- A replica whose log is played. -/
structure Rft.small (r : Rft) : Prop where
  log : r.hard.log.length ≤ 4294967296
  base : isI r.hard.base
  snap : r.hard.snap.length ≤ 4294967296
  reads : r.reads.length ≤ 4294967296
theorem Rft.small.len {r : Rft} (h : r.small) : r.hard.log.length ≤ maxLen := smallM h.log

abbrev lastR (r : Rft) : Int := r.hard.base + r.hard.log.length
theorem lastI_ok {r : Rft} (h : r.small) (hh : lkB r = true) : lastI r.hard = lastR r := by
  obtain ⟨h1, h2⟩ := lkB_iff.1 hh
  have := h.log
  unfold lastI
  split
  · rename_i e; unfold lastR; rw [e]; simp
  · exact wrap_id (by omega) (by omega)

def bothAll (e : Int → Ent → Ent → Bool) (a b : Rft) : Prop := lkB a = true → lkB b = true → ∀ k : Int, a.hard.base < k → b.hard.base < k → k ≤ lastR a → k ≤ lastR b → e k (entE a k) (entE b k) = true

theorem c_both (a b : Rft) (sa : a.small) (sb : b.small) (g : Nat) (p q : List PV) (e : Int → Ent → Ent → Bool) (he : ∀ k (x y : Ent), Ctr Try.prog g [iv k, .ag x.enc, .ag y.enc, .ep p, .ep q] (bv (e k x y)) []) :
    Ctr Try.prog 178 [.ag a.enc, .ag b.enc, .cl g [.ep p, .ep q]] (bv (dec (bothAll e a b))) [] := by
  refine spec_of_body mixed Try.func178 rfl (by kernel_rfl) (by kernel_rfl) ?_; conv => whnf
  ((try ((refine Exists.intro none ?_); (conv => whnf))); first | ((with_reducible refine call_by (c_has a) ?_); conv => whnf))
  ((first | (with_reducible refine split_dec (fun h => ?_) (fun h => ?_)) | (with_reducible refine split_beq (fun h => ?_) (fun h => ?_)) | (with_reducible refine split_bne (fun h => ?_) (fun h => ?_)) | (with_reducible refine split_not (fun h => ?_) (fun h => ?_)) | (with_reducible refine split_beqS (fun h => ?_) (fun h => ?_)) | (with_reducible refine split_intro (fun h => ?_) (fun h => ?_))) <;> conv => whnf)
  · exact exit_plain rfl (by rw [dec_true]; intro h1; rw [h] at h1; cases h1)
  have ha := h
  ((try ((refine Exists.intro none ?_); (conv => whnf))); first | ((with_reducible refine call_by (c_has b) ?_); conv => whnf))
  ((first | (with_reducible refine split_dec (fun h => ?_) (fun h => ?_)) | (with_reducible refine split_beq (fun h => ?_) (fun h => ?_)) | (with_reducible refine split_bne (fun h => ?_) (fun h => ?_)) | (with_reducible refine split_not (fun h => ?_) (fun h => ?_)) | (with_reducible refine split_beqS (fun h => ?_) (fun h => ?_)) | (with_reducible refine split_intro (fun h => ?_) (fun h => ?_))) <;> conv => whnf)
  · exact exit_plain rfl (by rw [dec_true]; intro _ h1; rw [h] at h1; cases h1)
  have hb := h
  have ea := lastI_ok sa ha
  have eb := lastI_ok sb hb
  have ra := lkB_iff.1 ha
  have rb := lkB_iff.1 hb
  have la := sa.log
  have lb := sb.log
  have ca := c_Last a.hard sa.len
  have cb := c_Last b.hard sb.len
  rw [ea] at ca
  rw [eb] at cb
  ((try ((refine Exists.intro none ?_); (conv => whnf))); first | ((with_reducible refine call_by (ca) ?_); conv => whnf))
  ((try ((refine Exists.intro none ?_); (conv => whnf))); first | ((with_reducible refine call_by (cb) ?_); conv => whnf))
  generalize hhi : (if lastR b < lastR a then lastR b else lastR a) = hi
  have h1 : hi ≤ lastR a := by rw [← hhi]; split <;> omega
  have h2 : hi ≤ lastR b := by rw [← hhi]; split <;> omega
  have h3 : ∀ n, n ≤ lastR a → n ≤ lastR b → n ≤ hi := by intro n; rw [← hhi]; split <;> omega
  refine tri_forB mixed (by kernel_rfl) (fun k : Int => k ≤ hi ∧ (k = hi ∨ (a.hard.base ≤ k ∧ b.hard.base ≤ k)) ∧ ∀ n : Int, a.hard.base < n → b.hard.base < n → k < n → n ≤ hi → e n (entE a n) (entE b n) = true) (fun k => [(11, iv k)]) (fun _ => [(3, a.enc), (4, b.enc)]) [] (fun k => (k - max a.hard.base b.hard.base).toNat) hi ⟨Int.le_refl _, .inl rfl, fun n _ _ h4 h5 => by omega⟩ ?_ ?_
  · conv => whnf
    (refine And.intro (And.intro (by with_unfolding_all rfl) (by intro q h; cases h)) ?_; refine And.intro ?_ (And.intro ?_ ?_) <;> (conv => whnf) <;> (repeat' (first | exact True.intro | (with_reducible exact rfl) | exact (rfl : List.replicate 0 PV.bad = []) | ((with_reducible refine And.intro ?_ ?_) <;> (first | (with_reducible exact wkV_same _ rfl) | exact wkV_pt rfl rfl | exact wkV_ow rfl rfl rfl | (refine wkV_ow rfl rfl ?_) | (refine wkV_sc (congrArg (Value.int .i64) ?_)) | (refine wkV_sc (congrArg Value.bool ?_)) | exact wkV_ls rfl | ((refine wkV_cl ?_); conv => whnf) | ((refine wkV_tu ?_); conv => whnf) | ((refine wkV_ag ?_); conv => whnf) | (conv => whnf))))))
    all_goals rfl
  rintro k ⟨hk, hk2, hp⟩
  conv => whnf
  ((first | (with_reducible refine split_dec (fun h => ?_) (fun h => ?_)) | (with_reducible refine split_beq (fun h => ?_) (fun h => ?_)) | (with_reducible refine split_bne (fun h => ?_) (fun h => ?_)) | (with_reducible refine split_not (fun h => ?_) (fun h => ?_)) | (with_reducible refine split_beqS (fun h => ?_) (fun h => ?_)) | (with_reducible refine split_intro (fun h => ?_) (fun h => ?_))) <;> conv => whnf)
  · have hk3 : a.hard.base < k ∧ b.hard.base < k := by split at h <;> omega
    have hik : isI k := by unfold isI; unfold lastR at h1; omega
    ((try ((refine Exists.intro none ?_); (conv => whnf))); first | ((with_reducible refine call_by (c_aEntry a sa.len sa.base ha k hik) ?_); conv => whnf))
    ((try ((refine Exists.intro none ?_); (conv => whnf))); first | ((with_reducible refine call_by (c_aEntry b sb.len sb.base hb k hik) ?_); conv => whnf))
    have hc := he k (entE a k) (entE b k)
    ((try ((refine Exists.intro none ?_); (conv => whnf))); first | ((with_reducible refine call_by (hc) ?_); conv => whnf))
    ((first | (with_reducible refine split_dec (fun h => ?_) (fun h => ?_)) | (with_reducible refine split_beq (fun h => ?_) (fun h => ?_)) | (with_reducible refine split_bne (fun h => ?_) (fun h => ?_)) | (with_reducible refine split_not (fun h => ?_) (fun h => ?_)) | (with_reducible refine split_beqS (fun h => ?_) (fun h => ?_)) | (with_reducible refine split_intro (fun h => ?_) (fun h => ?_))) <;> conv => whnf)
    · refine exit_plain rfl ?_
      rw [dec_false]
      intro hh
      have := hh ha hb k hk3.1 hk3.2 (by omega) (by omega)
      rw [this] at h; cases h
    · refine ⟨k - 1, ⟨⟨by omega, .inr (by omega), ?_⟩, by omega⟩, ?_⟩
      · intro n n1 n2 n3 n4
        by_cases en : n = k
        · subst en; exact h
        · exact hp n n1 n2 (by omega) n4
      · conv => whnf
        (refine And.intro (And.intro (by with_unfolding_all rfl) (by intro q h; cases h)) ?_; refine And.intro ?_ (And.intro ?_ ?_) <;> (conv => whnf) <;> (repeat' (first | exact True.intro | (with_reducible exact rfl) | exact (rfl : List.replicate 0 PV.bad = []) | ((with_reducible refine And.intro ?_ ?_) <;> (first | (with_reducible exact wkV_same _ rfl) | exact wkV_pt rfl rfl | exact wkV_ow rfl rfl rfl | (refine wkV_ow rfl rfl ?_) | (refine wkV_sc (congrArg (Value.int .i64) ?_)) | (refine wkV_sc (congrArg Value.bool ?_)) | exact wkV_ls rfl | ((refine wkV_cl ?_); conv => whnf) | ((refine wkV_tu ?_); conv => whnf) | ((refine wkV_ag ?_); conv => whnf) | (conv => whnf))))))
        all_goals first | rfl | skip
        exact wrap_id (by omega) (by unfold lastR at h1; omega)
  · have hk3 : k ≤ a.hard.base ∨ k ≤ b.hard.base := by split at h <;> omega
    refine exit_plain rfl ?_
    rw [dec_true]
    intro _ _ n n1 n2 n3 n4
    exact hp n n1 n2 (by omega) (h3 n n3 n4)

def agreeE (a b : Rft) (k : Int) (x y : Ent) : Bool := decide (a.commit < k) || (decide (b.commit < k) || decide (x.nrm = y.nrm))
theorem c_Agrees11 (a b : Rft) (k : Int) (x y : Ent) : Ctr Try.prog 183 [iv k, .ag x.enc, .ag y.enc, .ep a.enc, .ep b.enc] (bv (agreeE a b k x y)) [] := by
  refine spec_of_body mixed Try.func183 rfl (by kernel_rfl) (by kernel_rfl) ?_; conv => whnf
  repeat' (first | ((first | (with_reducible refine split_dec (fun h => ?_) (fun h => ?_)) | (with_reducible refine split_beq (fun h => ?_) (fun h => ?_)) | (with_reducible refine split_bne (fun h => ?_) (fun h => ?_)) | (with_reducible refine split_not (fun h => ?_) (fun h => ?_)) | (with_reducible refine split_beqS (fun h => ?_) (fun h => ?_)) | (with_reducible refine split_intro (fun h => ?_) (fun h => ?_))) <;> conv => whnf) | ((try ((refine Exists.intro none ?_); (conv => whnf))); first | ((with_reducible refine call_by (c_same x y) ?_); conv => whnf)))
  all_goals (refine exit_plain rfl ?_)
  · simp [agreeE, h]
  · simp [agreeE, h]
  · have e1 : decide (a.commit < k) = false := decide_eq_false (by omega)
    have e2 : decide (b.commit < k) = false := decide_eq_false (by omega)
    unfold agreeE; rw [e1, e2]; rfl
noncomputable def agreeF (a b : Rft) : Bool := dec (bothAll (agreeE a b) a b)
theorem c_Agrees1 (a b : Rft) (sa : a.small) (sb : b.small) : Ctr Try.prog 182 [.ag a.enc, .ag b.enc] (bv (agreeF a b)) [] := by
  refine spec_of_body mixed Try.func182 rfl (by kernel_rfl) (by kernel_rfl) ?_; conv => whnf
  ((try ((refine Exists.intro none ?_); (conv => whnf))); first | ((with_reducible refine call_by (c_both a b sa sb 183 a.enc b.enc (agreeE a b) (c_Agrees11 a b)) ?_); conv => whnf))
  exact exit_plain rfl rfl
theorem c_Agrees (l : List Rft) (hl : l.length ≤ maxLen) (hs : ∀ r ∈ l, r.small) : Ctr Try.prog 86 [.sl 40 (l.map Rft.enc)] (bv (dec (pairsP agreeF l))) [] := by
  refine spec_of_body mixed Try.func86 rfl (by kernel_rfl) (by kernel_rfl) ?_; conv => whnf
  ((try ((refine Exists.intro none ?_); (conv => whnf))); first | ((with_reducible refine call_by (c_pairs l hl 182 agreeF (fun a ha b hb => c_Agrees1 a b (hs a ha) (hs b hb))) ?_); conv => whnf))
  exact exit_plain rfl rfl

/-! Matches: the closure writes what it has captured. -/
theorem c_Matches11 (met : Bool) (k : Int) (x y : Ent) : CtrE Try.prog 179 [iv k, .ag x.enc, .ag y.enc, .pt 1000000 0] [(1000000, [bv met])] [] (bv (!(met || x.term == y.term) || decide (x.nrm = y.nrm))) [(1000000, [bv (met || x.term == y.term)])] [] := by
  refine spec_of_bodyE mixed Try.func179 rfl (by kernel_rfl) (by kernel_rfl) ?_; conv => whnf
  cases met
  · conv => whnf
    repeat' (first | ((first | (with_reducible refine split_dec (fun h => ?_) (fun h => ?_)) | (with_reducible refine split_beq (fun h => ?_) (fun h => ?_)) | (with_reducible refine split_bne (fun h => ?_) (fun h => ?_)) | (with_reducible refine split_not (fun h => ?_) (fun h => ?_)) | (with_reducible refine split_beqS (fun h => ?_) (fun h => ?_)) | (with_reducible refine split_intro (fun h => ?_) (fun h => ?_))) <;> conv => whnf) | ((try ((refine Exists.intro none ?_); (conv => whnf))); first | ((with_reducible refine call_by (c_same x y) ?_); conv => whnf)))
    all_goals (refine ExitE.mk ⟨[], [], ?_⟩; (conv => whnf); (refine And.intro (And.intro (by with_unfolding_all rfl) (by intro q h; cases h)) ?_; refine And.intro ?_ (And.intro ?_ ?_) <;> (conv => whnf) <;> (repeat' (first | exact True.intro | (with_reducible exact rfl) | exact (rfl : List.replicate 0 PV.bad = []) | ((with_reducible refine And.intro ?_ ?_) <;> (first | (with_reducible exact wkV_same _ rfl) | exact wkV_pt rfl rfl | exact wkV_ow rfl rfl rfl | (refine wkV_ow rfl rfl ?_) | (refine wkV_sc (congrArg (Value.int .i64) ?_)) | (refine wkV_sc (congrArg Value.bool ?_)) | exact wkV_ls rfl | ((refine wkV_cl ?_); conv => whnf) | ((refine wkV_tu ?_); conv => whnf) | ((refine wkV_ag ?_); conv => whnf) | (conv => whnf)))))))
    all_goals simp_all
  · conv => whnf
    repeat' (first | ((first | (with_reducible refine split_dec (fun h => ?_) (fun h => ?_)) | (with_reducible refine split_beq (fun h => ?_) (fun h => ?_)) | (with_reducible refine split_bne (fun h => ?_) (fun h => ?_)) | (with_reducible refine split_not (fun h => ?_) (fun h => ?_)) | (with_reducible refine split_beqS (fun h => ?_) (fun h => ?_)) | (with_reducible refine split_intro (fun h => ?_) (fun h => ?_))) <;> conv => whnf) | ((try ((refine Exists.intro none ?_); (conv => whnf))); first | ((with_reducible refine call_by (c_same x y) ?_); conv => whnf)))
    all_goals (refine ExitE.mk ⟨[], [], ?_⟩; (conv => whnf); (refine And.intro (And.intro (by with_unfolding_all rfl) (by intro q h; cases h)) ?_; refine And.intro ?_ (And.intro ?_ ?_) <;> (conv => whnf) <;> (repeat' (first | exact True.intro | (with_reducible exact rfl) | exact (rfl : List.replicate 0 PV.bad = []) | ((with_reducible refine And.intro ?_ ?_) <;> (first | (with_reducible exact wkV_same _ rfl) | exact wkV_pt rfl rfl | exact wkV_ow rfl rfl rfl | (refine wkV_ow rfl rfl ?_) | (refine wkV_sc (congrArg (Value.int .i64) ?_)) | (refine wkV_sc (congrArg Value.bool ?_)) | exact wkV_ls rfl | ((refine wkV_cl ?_); conv => whnf) | ((refine wkV_tu ?_); conv => whnf) | ((refine wkV_ag ?_); conv => whnf) | (conv => whnf)))))))
    all_goals simp_all

/-- One term at an index. -/
def oneT (a b : Rft) (k : Int) : Prop := (entE a k).term = (entE b k).term
def metP (a b : Rft) (hi k : Int) : Prop := ∃ n : Int, k < n ∧ n ≤ hi ∧ oneT a b n
def matchP (a b : Rft) : Prop := lkB a = true → lkB b = true → ∀ k : Int, a.hard.base < k → b.hard.base < k → k ≤ lastR a → k ≤ lastR b → (∃ n : Int, k ≤ n ∧ n ≤ lastR a ∧ n ≤ lastR b ∧ oneT a b n) → (entE a k).nrm = (entE b k).nrm

theorem met_step (a b : Rft) (hi k : Int) (h : k ≤ hi) : dec (metP a b hi (k - 1)) = (dec (metP a b hi k) || ((entE a k).term == (entE b k).term)) := by
  rw [Bool.eq_iff_iff, Bool.or_eq_true, dec_eq_true, dec_eq_true, beq_iff_eq]
  constructor
  · rintro ⟨n, h1, h2, h3⟩
    by_cases e : n = k
    · subst e; exact .inr h3
    · exact .inl ⟨n, by omega, h2, h3⟩
  · rintro (⟨n, h1, h2, h3⟩ | h3)
    · exact ⟨n, by omega, h2, h3⟩
    · exact ⟨k, by omega, h, h3⟩

set_option maxHeartbeats 1000000 in
theorem c_bothM (a b : Rft) (sa : a.small) (sb : b.small) : CtrE Try.prog 178 [.ag a.enc, .ag b.enc, .cl 179 [.pt 1000000 0]] [(1000000, [bv false])] [] (bv (dec (matchP a b))) [(1000000, [.bad])] [] := by
  refine spec_of_bodyE mixed Try.func178 rfl (by kernel_rfl) (by kernel_rfl) ?_; conv => whnf
  ((try ((refine Exists.intro none ?_); (conv => whnf))); first | ((with_reducible refine call_by (c_has a) ?_); conv => whnf))
  ((first | (with_reducible refine split_dec (fun h => ?_) (fun h => ?_)) | (with_reducible refine split_beq (fun h => ?_) (fun h => ?_)) | (with_reducible refine split_bne (fun h => ?_) (fun h => ?_)) | (with_reducible refine split_not (fun h => ?_) (fun h => ?_)) | (with_reducible refine split_beqS (fun h => ?_) (fun h => ?_)) | (with_reducible refine split_intro (fun h => ?_) (fun h => ?_))) <;> conv => whnf)
  · (refine ExitE.mk ⟨[], [], ?_⟩; (conv => whnf); (refine And.intro (And.intro (by with_unfolding_all rfl) (by intro q h; cases h)) ?_; refine And.intro ?_ (And.intro ?_ ?_) <;> (conv => whnf) <;> (repeat' (first | exact True.intro | (with_reducible exact rfl) | exact (rfl : List.replicate 0 PV.bad = []) | ((with_reducible refine And.intro ?_ ?_) <;> (first | (with_reducible exact wkV_same _ rfl) | exact wkV_pt rfl rfl | exact wkV_ow rfl rfl rfl | (refine wkV_ow rfl rfl ?_) | (refine wkV_sc (congrArg (Value.int .i64) ?_)) | (refine wkV_sc (congrArg Value.bool ?_)) | exact wkV_ls rfl | ((refine wkV_cl ?_); conv => whnf) | ((refine wkV_tu ?_); conv => whnf) | ((refine wkV_ag ?_); conv => whnf) | (conv => whnf)))))))
    rw [dec_true]; intro h1; rw [h] at h1; cases h1
  have ha := h
  ((try ((refine Exists.intro none ?_); (conv => whnf))); first | ((with_reducible refine call_by (c_has b) ?_); conv => whnf))
  ((first | (with_reducible refine split_dec (fun h => ?_) (fun h => ?_)) | (with_reducible refine split_beq (fun h => ?_) (fun h => ?_)) | (with_reducible refine split_bne (fun h => ?_) (fun h => ?_)) | (with_reducible refine split_not (fun h => ?_) (fun h => ?_)) | (with_reducible refine split_beqS (fun h => ?_) (fun h => ?_)) | (with_reducible refine split_intro (fun h => ?_) (fun h => ?_))) <;> conv => whnf)
  · (refine ExitE.mk ⟨[], [], ?_⟩; (conv => whnf); (refine And.intro (And.intro (by with_unfolding_all rfl) (by intro q h; cases h)) ?_; refine And.intro ?_ (And.intro ?_ ?_) <;> (conv => whnf) <;> (repeat' (first | exact True.intro | (with_reducible exact rfl) | exact (rfl : List.replicate 0 PV.bad = []) | ((with_reducible refine And.intro ?_ ?_) <;> (first | (with_reducible exact wkV_same _ rfl) | exact wkV_pt rfl rfl | exact wkV_ow rfl rfl rfl | (refine wkV_ow rfl rfl ?_) | (refine wkV_sc (congrArg (Value.int .i64) ?_)) | (refine wkV_sc (congrArg Value.bool ?_)) | exact wkV_ls rfl | ((refine wkV_cl ?_); conv => whnf) | ((refine wkV_tu ?_); conv => whnf) | ((refine wkV_ag ?_); conv => whnf) | (conv => whnf)))))))
    rw [dec_true]; intro _ h1; rw [h] at h1; cases h1
  have hb := h
  have ea := lastI_ok sa ha
  have eb := lastI_ok sb hb
  have ra := lkB_iff.1 ha
  have rb := lkB_iff.1 hb
  have la := sa.log
  have lb := sb.log
  have ca := c_Last a.hard sa.len
  have cb := c_Last b.hard sb.len
  rw [ea] at ca
  rw [eb] at cb
  ((try ((refine Exists.intro none ?_); (conv => whnf))); first | ((with_reducible refine call_by (ca) ?_); conv => whnf))
  ((try ((refine Exists.intro none ?_); (conv => whnf))); first | ((with_reducible refine call_by (cb) ?_); conv => whnf))
  generalize hhi : (if lastR b < lastR a then lastR b else lastR a) = hi
  have h1 : hi ≤ lastR a := by rw [← hhi]; split <;> omega
  have h2 : hi ≤ lastR b := by rw [← hhi]; split <;> omega
  have h3 : ∀ n, n ≤ lastR a → n ≤ lastR b → n ≤ hi := by intro n; rw [← hhi]; split <;> omega
  refine tri_forB mixed (by kernel_rfl) (fun k : Int => k ≤ hi ∧ (k = hi ∨ (a.hard.base ≤ k ∧ b.hard.base ≤ k)) ∧ ∀ n : Int, a.hard.base < n → b.hard.base < n → k < n → n ≤ hi → (∃ m : Int, n ≤ m ∧ m ≤ hi ∧ oneT a b m) → (entE a n).nrm = (entE b n).nrm) (fun k => [(11, iv k)]) (fun k => [(1000000, [bv (dec (metP a b hi k))]), (3, a.enc), (4, b.enc)]) [] (fun k => (k - max a.hard.base b.hard.base).toNat) hi ⟨Int.le_refl _, .inl rfl, fun n _ _ h4 h5 => by omega⟩ ?_ ?_
  · conv => whnf
    (refine And.intro (And.intro (by with_unfolding_all rfl) (by intro q h; cases h)) ?_; refine And.intro ?_ (And.intro ?_ ?_) <;> (conv => whnf) <;> (repeat' (first | exact True.intro | (with_reducible exact rfl) | exact (rfl : List.replicate 0 PV.bad = []) | ((with_reducible refine And.intro ?_ ?_) <;> (first | (with_reducible exact wkV_same _ rfl) | exact wkV_pt rfl rfl | exact wkV_ow rfl rfl rfl | (refine wkV_ow rfl rfl ?_) | (refine wkV_sc (congrArg (Value.int .i64) ?_)) | (refine wkV_sc (congrArg Value.bool ?_)) | exact wkV_ls rfl | ((refine wkV_cl ?_); conv => whnf) | ((refine wkV_tu ?_); conv => whnf) | ((refine wkV_ag ?_); conv => whnf) | (conv => whnf))))))
    all_goals first | rfl | skip
    rw [dec_false]
    rintro ⟨n, n1, n2, _⟩
    omega
  rintro k ⟨hk, hk2, hp⟩
  conv => whnf
  ((first | (with_reducible refine split_dec (fun h => ?_) (fun h => ?_)) | (with_reducible refine split_beq (fun h => ?_) (fun h => ?_)) | (with_reducible refine split_bne (fun h => ?_) (fun h => ?_)) | (with_reducible refine split_not (fun h => ?_) (fun h => ?_)) | (with_reducible refine split_beqS (fun h => ?_) (fun h => ?_)) | (with_reducible refine split_intro (fun h => ?_) (fun h => ?_))) <;> conv => whnf)
  · have hk3 : a.hard.base < k ∧ b.hard.base < k := by split at h <;> omega
    have hik : isI k := by unfold isI; unfold lastR at h1; omega
    have hms := met_step a b hi k hk
    ((try ((refine Exists.intro none ?_); (conv => whnf))); first | ((with_reducible refine call_by (c_aEntry a sa.len sa.base ha k hik) ?_); conv => whnf))
    ((try ((refine Exists.intro none ?_); (conv => whnf))); first | ((with_reducible refine call_by (c_aEntry b sb.len sb.base hb k hik) ?_); conv => whnf))
    ((refine Exists.intro (some ([(1000000, 1000000)], [], [])) ?_); (conv => whnf); first | ((with_reducible refine callE_by (c_Matches11 (dec (metP a b hi k)) k (entE a k) (entE b k)) ?_); conv => whnf))
    ((first | (with_reducible refine split_dec (fun h => ?_) (fun h => ?_)) | (with_reducible refine split_beq (fun h => ?_) (fun h => ?_)) | (with_reducible refine split_bne (fun h => ?_) (fun h => ?_)) | (with_reducible refine split_not (fun h => ?_) (fun h => ?_)) | (with_reducible refine split_beqS (fun h => ?_) (fun h => ?_)) | (with_reducible refine split_intro (fun h => ?_) (fun h => ?_))) <;> conv => whnf)
    · (refine ExitE.mk ⟨[], [], ?_⟩; (conv => whnf); (refine And.intro (And.intro (by with_unfolding_all rfl) (by intro q h; cases h)) ?_; refine And.intro ?_ (And.intro ?_ ?_) <;> (conv => whnf) <;> (repeat' (first | exact True.intro | (with_reducible exact rfl) | exact (rfl : List.replicate 0 PV.bad = []) | ((with_reducible refine And.intro ?_ ?_) <;> (first | (with_reducible exact wkV_same _ rfl) | exact wkV_pt rfl rfl | exact wkV_ow rfl rfl rfl | (refine wkV_ow rfl rfl ?_) | (refine wkV_sc (congrArg (Value.int .i64) ?_)) | (refine wkV_sc (congrArg Value.bool ?_)) | exact wkV_ls rfl | ((refine wkV_cl ?_); conv => whnf) | ((refine wkV_tu ?_); conv => whnf) | ((refine wkV_ag ?_); conv => whnf) | (conv => whnf)))))))
      rw [dec_false]
      intro hh
      rw [← hms] at h
      simp only [Bool.or_eq_false_iff, Bool.not_eq_false', decide_eq_false_iff_not, dec_eq_true] at h
      obtain ⟨⟨n, n1, n2, n3⟩, h⟩ := h
      exact h (hh ha hb k hk3.1 hk3.2 (by omega) (by omega) ⟨n, by omega, by omega, by omega, n3⟩)
    · refine ⟨k - 1, ⟨⟨by omega, .inr (by omega), ?_⟩, by omega⟩, ?_⟩
      · intro n n1 n2 n3 n4 n5
        by_cases en : n = k
        · subst en
          rw [← hms] at h
          simp only [Bool.or_eq_true, Bool.not_eq_true', decide_eq_true_eq, dec_eq_false] at h
          rcases h with h | h
          · exfalso
            obtain ⟨m, m1, m2, m3⟩ := n5
            exact h ⟨m, by omega, m2, m3⟩
          · exact h
        · exact hp n n1 n2 (by omega) n4 n5
      · conv => whnf
        (refine And.intro (And.intro (by with_unfolding_all rfl) (by intro q h; cases h)) ?_; refine And.intro ?_ (And.intro ?_ ?_) <;> (conv => whnf) <;> (repeat' (first | exact True.intro | (with_reducible exact rfl) | exact (rfl : List.replicate 0 PV.bad = []) | ((with_reducible refine And.intro ?_ ?_) <;> (first | (with_reducible exact wkV_same _ rfl) | exact wkV_pt rfl rfl | exact wkV_ow rfl rfl rfl | (refine wkV_ow rfl rfl ?_) | (refine wkV_sc (congrArg (Value.int .i64) ?_)) | (refine wkV_sc (congrArg Value.bool ?_)) | exact wkV_ls rfl | ((refine wkV_cl ?_); conv => whnf) | ((refine wkV_tu ?_); conv => whnf) | ((refine wkV_ag ?_); conv => whnf) | (conv => whnf))))))
        all_goals first | rfl | exact hms.symm | skip
        exact wrap_id (by omega) (by unfold lastR at h1; omega)
  · have hk3 : k ≤ a.hard.base ∨ k ≤ b.hard.base := by split at h <;> omega
    (refine ExitE.mk ⟨[], [], ?_⟩; (conv => whnf); (refine And.intro (And.intro (by with_unfolding_all rfl) (by intro q h; cases h)) ?_; refine And.intro ?_ (And.intro ?_ ?_) <;> (conv => whnf) <;> (repeat' (first | exact True.intro | (with_reducible exact rfl) | exact (rfl : List.replicate 0 PV.bad = []) | ((with_reducible refine And.intro ?_ ?_) <;> (first | (with_reducible exact wkV_same _ rfl) | exact wkV_pt rfl rfl | exact wkV_ow rfl rfl rfl | (refine wkV_ow rfl rfl ?_) | (refine wkV_sc (congrArg (Value.int .i64) ?_)) | (refine wkV_sc (congrArg Value.bool ?_)) | exact wkV_ls rfl | ((refine wkV_cl ?_); conv => whnf) | ((refine wkV_tu ?_); conv => whnf) | ((refine wkV_ag ?_); conv => whnf) | (conv => whnf)))))))
    rw [dec_true]
    rintro _ _ n n1 n2 n3 n4 ⟨m, m1, m2, m3, m4⟩
    exact hp n n1 n2 (by omega) (h3 n n3 n4) ⟨m, m1, h3 m m2 m3, m4⟩

noncomputable def matchF (a b : Rft) : Bool := dec (matchP a b)
theorem c_Matches1 (a b : Rft) (sa : a.small) (sb : b.small) : Ctr Try.prog 177 [.ag a.enc, .ag b.enc] (bv (matchF a b)) [] := by
  refine spec_of_body mixed Try.func177 rfl (by kernel_rfl) (by kernel_rfl) ?_; conv => whnf
  ((refine Exists.intro (some ([(1000000, 5)], [], [])) ?_); (conv => whnf); first | ((with_reducible refine callE_by (c_bothM a b sa sb) ?_); conv => whnf))
  exact exit_plain rfl rfl
theorem c_Matches (l : List Rft) (hl : l.length ≤ maxLen) (hs : ∀ r ∈ l, r.small) : Ctr Try.prog 84 [.sl 40 (l.map Rft.enc)] (bv (dec (pairsP matchF l))) [] := by
  refine spec_of_body mixed Try.func84 rfl (by kernel_rfl) (by kernel_rfl) ?_; conv => whnf
  ((try ((refine Exists.intro none ?_); (conv => whnf))); first | ((with_reducible refine call_by (c_pairs l hl 177 matchF (fun a ha b hb => c_Matches1 a b (hs a ha) (hs b hb))) ?_); conv => whnf))
  exact exit_plain rfl rfl
end Go.Proofs

/- Contracts of functions: leaders, logs that match, that agree (the reference's). -/
namespace Go.Proofs
open Go.Pv
set_option maxRecDepth 100000

theorem c_rLeaders (l : List Rft) (hl : l.length ≤ maxLen) : Ctr Try.prog 83 [.sl 40 (l.map Rft.enc)] (bv (dec (pairsP leadF l))) [] := by
  have hl' : l.length ≤ 9223372036854775807 := Nat.le_trans hl (by decide)
  refine spec_of_body mixed Try.func83 rfl (by kernel_rfl) (by kernel_rfl) ?_; conv => whnf
  refine tri_for0 mixed (by kernel_rfl) (fun i : Nat => i ≤ l.length ∧ ∀ j (hj : j < l.length), j < i → ∀ k (hk : k < j), leadF (l[k]'(Nat.lt_trans hk hj)) (l[j]'hj) = true) (fun i => [(3, iv i)]) [] (fun i => l.length - i) 0 ⟨Nat.zero_le _, fun j _ h => absurd h (Nat.not_lt_zero _)⟩ ?_ ?_
  · conv => whnf
    (refine And.intro (And.intro (by with_unfolding_all rfl) (by intro q h; cases h)) ?_; refine And.intro ?_ (And.intro ?_ ?_) <;> (conv => whnf) <;> (repeat' (first | exact True.intro | (with_reducible exact rfl) | exact (rfl : List.replicate 0 PV.bad = []) | ((with_reducible refine And.intro ?_ ?_) <;> (first | (with_reducible exact wkV_same _ rfl) | exact wkV_pt rfl rfl | exact wkV_ow rfl rfl rfl | (refine wkV_ow rfl rfl ?_) | (refine wkV_sc (congrArg (Value.int .i64) ?_)) | (refine wkV_sc (congrArg Value.bool ?_)) | exact wkV_ls rfl | ((refine wkV_cl ?_); conv => whnf) | ((refine wkV_tu ?_); conv => whnf) | ((refine wkV_ag ?_); conv => whnf) | (conv => whnf))))))
    all_goals rfl
  rintro i ⟨hi, hp⟩
  conv => whnf
  ((first | (with_reducible refine split_dec (fun h => ?_) (fun h => ?_)) | (with_reducible refine split_beq (fun h => ?_) (fun h => ?_)) | (with_reducible refine split_bne (fun h => ?_) (fun h => ?_)) | (with_reducible refine split_not (fun h => ?_) (fun h => ?_)) | (with_reducible refine split_beqS (fun h => ?_) (fun h => ?_)) | (with_reducible refine split_intro (fun h => ?_) (fun h => ?_))) <;> conv => whnf)
  · simp only [List.length_map] at h
    have hlt : i < l.length := by omega
    refine tri_for0 mixed (by kernel_rfl) (fun k : Nat => k ≤ i ∧ ∀ j (hj : j < k) (hjl : j < l.length), leadF (l[j]'hjl) (l[i]'hlt) = true) (fun k => [(4, iv k)]) [] (fun k => i - k) 0 ⟨Nat.zero_le _, fun j h => absurd h (Nat.not_lt_zero _)⟩ ?_ ?_
    · conv => whnf
      (refine And.intro (And.intro (by with_unfolding_all rfl) (by intro q h; cases h)) ?_; refine And.intro ?_ (And.intro ?_ ?_) <;> (conv => whnf) <;> (repeat' (first | exact True.intro | (with_reducible exact rfl) | exact (rfl : List.replicate 0 PV.bad = []) | ((with_reducible refine And.intro ?_ ?_) <;> (first | (with_reducible exact wkV_same _ rfl) | exact wkV_pt rfl rfl | exact wkV_ow rfl rfl rfl | (refine wkV_ow rfl rfl ?_) | (refine wkV_sc (congrArg (Value.int .i64) ?_)) | (refine wkV_sc (congrArg Value.bool ?_)) | exact wkV_ls rfl | ((refine wkV_cl ?_); conv => whnf) | ((refine wkV_tu ?_); conv => whnf) | ((refine wkV_ag ?_); conv => whnf) | (conv => whnf))))))
      all_goals rfl
    rintro k ⟨hk, hq⟩
    conv => whnf
    ((first | (with_reducible refine split_dec (fun h => ?_) (fun h => ?_)) | (with_reducible refine split_beq (fun h => ?_) (fun h => ?_)) | (with_reducible refine split_bne (fun h => ?_) (fun h => ?_)) | (with_reducible refine split_not (fun h => ?_) (fun h => ?_)) | (with_reducible refine split_beqS (fun h => ?_) (fun h => ?_)) | (with_reducible refine split_intro (fun h => ?_) (fun h => ?_))) <;> conv => whnf)
    · have hki : k < i := by omega
      have hkl : k < l.length := by omega
      have next : leadF (l[k]'hkl) (l[i]'hlt) = true → ∀ j (hj : j < k + 1) (hjl : j < l.length), leadF (l[j]'hjl) (l[i]'hlt) = true := by
        intro hh j hj hjl
        by_cases e : j = k
        · subst e; exact hh
        · exact hq j (by omega) hjl
      (first | ((with_reducible refine And.intro (by omega) (Exists.intro _ (And.intro (row_at hlt) ?_))); conv => whnf))
      ((first | (with_reducible refine split_dec (fun h => ?_) (fun h => ?_)) | (with_reducible refine split_beq (fun h => ?_) (fun h => ?_)) | (with_reducible refine split_bne (fun h => ?_) (fun h => ?_)) | (with_reducible refine split_not (fun h => ?_) (fun h => ?_)) | (with_reducible refine split_beqS (fun h => ?_) (fun h => ?_)) | (with_reducible refine split_intro (fun h => ?_) (fun h => ?_))) <;> conv => whnf)
      · have q1 := h
        (first | ((with_reducible refine And.intro (by omega) (Exists.intro _ (And.intro (row_at hkl) ?_))); conv => whnf))
        ((first | (with_reducible refine split_dec (fun h => ?_) (fun h => ?_)) | (with_reducible refine split_beq (fun h => ?_) (fun h => ?_)) | (with_reducible refine split_bne (fun h => ?_) (fun h => ?_)) | (with_reducible refine split_not (fun h => ?_) (fun h => ?_)) | (with_reducible refine split_beqS (fun h => ?_) (fun h => ?_)) | (with_reducible refine split_intro (fun h => ?_) (fun h => ?_))) <;> conv => whnf)
        · have q2 := h
          (first | ((with_reducible refine And.intro (by omega) (Exists.intro _ (And.intro (row_at hlt) ?_))); conv => whnf))
          (first | ((with_reducible refine And.intro (by omega) (Exists.intro _ (And.intro (row_at hkl) ?_))); conv => whnf))
          ((first | (with_reducible refine split_dec (fun h => ?_) (fun h => ?_)) | (with_reducible refine split_beq (fun h => ?_) (fun h => ?_)) | (with_reducible refine split_bne (fun h => ?_) (fun h => ?_)) | (with_reducible refine split_not (fun h => ?_) (fun h => ?_)) | (with_reducible refine split_beqS (fun h => ?_) (fun h => ?_)) | (with_reducible refine split_intro (fun h => ?_) (fun h => ?_))) <;> conv => whnf)
          · refine exit_plain rfl ?_
            rw [dec_false]
            intro hh
            have := hh i hlt k hki
            simp [leadF, q1, q2, h] at this
          · refine ⟨k + 1, ⟨⟨by omega, next (by simp [leadF, q1, q2]; intro e; exact h e.symm)⟩, by omega⟩, ?_⟩
            conv => whnf
            (refine And.intro (And.intro (by with_unfolding_all rfl) (by intro q h; cases h)) ?_; refine And.intro ?_ (And.intro ?_ ?_) <;> (conv => whnf) <;> (repeat' (first | exact True.intro | (with_reducible exact rfl) | exact (rfl : List.replicate 0 PV.bad = []) | ((with_reducible refine And.intro ?_ ?_) <;> (first | (with_reducible exact wkV_same _ rfl) | exact wkV_pt rfl rfl | exact wkV_ow rfl rfl rfl | (refine wkV_ow rfl rfl ?_) | (refine wkV_sc (congrArg (Value.int .i64) ?_)) | (refine wkV_sc (congrArg Value.bool ?_)) | exact wkV_ls rfl | ((refine wkV_cl ?_); conv => whnf) | ((refine wkV_tu ?_); conv => whnf) | ((refine wkV_ag ?_); conv => whnf) | (conv => whnf))))))
            all_goals first | exact w1 (by omega) | rfl
        · refine ⟨k + 1, ⟨⟨by omega, next (by simp [leadF, h])⟩, by omega⟩, ?_⟩
          conv => whnf
          (refine And.intro (And.intro (by with_unfolding_all rfl) (by intro q h; cases h)) ?_; refine And.intro ?_ (And.intro ?_ ?_) <;> (conv => whnf) <;> (repeat' (first | exact True.intro | (with_reducible exact rfl) | exact (rfl : List.replicate 0 PV.bad = []) | ((with_reducible refine And.intro ?_ ?_) <;> (first | (with_reducible exact wkV_same _ rfl) | exact wkV_pt rfl rfl | exact wkV_ow rfl rfl rfl | (refine wkV_ow rfl rfl ?_) | (refine wkV_sc (congrArg (Value.int .i64) ?_)) | (refine wkV_sc (congrArg Value.bool ?_)) | exact wkV_ls rfl | ((refine wkV_cl ?_); conv => whnf) | ((refine wkV_tu ?_); conv => whnf) | ((refine wkV_ag ?_); conv => whnf) | (conv => whnf))))))
          all_goals first | exact w1 (by omega) | rfl
      · refine ⟨k + 1, ⟨⟨by omega, next (by simp [leadF, h])⟩, by omega⟩, ?_⟩
        conv => whnf
        (refine And.intro (And.intro (by with_unfolding_all rfl) (by intro q h; cases h)) ?_; refine And.intro ?_ (And.intro ?_ ?_) <;> (conv => whnf) <;> (repeat' (first | exact True.intro | (with_reducible exact rfl) | exact (rfl : List.replicate 0 PV.bad = []) | ((with_reducible refine And.intro ?_ ?_) <;> (first | (with_reducible exact wkV_same _ rfl) | exact wkV_pt rfl rfl | exact wkV_ow rfl rfl rfl | (refine wkV_ow rfl rfl ?_) | (refine wkV_sc (congrArg (Value.int .i64) ?_)) | (refine wkV_sc (congrArg Value.bool ?_)) | exact wkV_ls rfl | ((refine wkV_cl ?_); conv => whnf) | ((refine wkV_tu ?_); conv => whnf) | ((refine wkV_ag ?_); conv => whnf) | (conv => whnf))))))
        all_goals first | exact w1 (by omega) | rfl
    · have : k = i := by omega
      subst this
      refine ⟨k + 1, ⟨⟨by omega, ?_⟩, by omega⟩, ?_⟩
      · intro j hj hji m hm
        by_cases e : j = k
        · subst e; exact hq m hm (by omega)
        · exact hp j hj (by omega) m hm
      · conv => whnf
        (refine And.intro (And.intro (by with_unfolding_all rfl) (by intro q h; cases h)) ?_; refine And.intro ?_ (And.intro ?_ ?_) <;> (conv => whnf) <;> (repeat' (first | exact True.intro | (with_reducible exact rfl) | exact (rfl : List.replicate 0 PV.bad = []) | ((with_reducible refine And.intro ?_ ?_) <;> (first | (with_reducible exact wkV_same _ rfl) | exact wkV_pt rfl rfl | exact wkV_ow rfl rfl rfl | (refine wkV_ow rfl rfl ?_) | (refine wkV_sc (congrArg (Value.int .i64) ?_)) | (refine wkV_sc (congrArg Value.bool ?_)) | exact wkV_ls rfl | ((refine wkV_cl ?_); conv => whnf) | ((refine wkV_tu ?_); conv => whnf) | ((refine wkV_ag ?_); conv => whnf) | (conv => whnf))))))
        all_goals first | exact w1 (by omega) | rfl
  · simp only [List.length_map] at h
    have : i = l.length := by omega
    subst this
    refine exit_plain rfl ?_
    rw [dec_true]
    intro i hi k hk
    exact hp i hi hi k hk

/-- The reference's entry. -/
theorem c_rAtR (r : Rft) (sr : r.small) (hh : lkB r = true) (i : Int) (hi : isI i) : Ctr Try.prog 127 [.ag r.hard.enc, iv i] (.tu [.ag (entE r i).enc, bv (entAt r.hard i).isSome]) [] := by
  obtain ⟨h1, h2⟩ := lkB_iff.1 hh
  have := sr.log
  exact c_rAt r.hard sr.len h1 (by omega) i hi

theorem c_rBoth (a b : Rft) (sa : a.small) (sb : b.small) (ha : lkB a = true) (hb : lkB b = true) (i : Int) (hi : isI i) : Ctr Try.prog 222 [.ag a.enc, .ag b.enc, iv i] (.tu [.ag (entE a i).enc, .ag (entE b i).enc, bv ((entAt a.hard i).isSome && (entAt b.hard i).isSome)]) [] := by
  refine spec_of_body mixed Try.func222 rfl (by kernel_rfl) (by kernel_rfl) ?_; conv => whnf
  ((try ((refine Exists.intro none ?_); (conv => whnf))); first | ((with_reducible refine call_by (c_rAtR a sa ha i hi) ?_); conv => whnf))
  ((try ((refine Exists.intro none ?_); (conv => whnf))); first | ((with_reducible refine call_by (c_rAtR b sb hb i hi) ?_); conv => whnf))
  cases h1 : (entAt a.hard i).isSome
  · conv => whnf
    exact exit_plain rfl rfl
  · conv => whnf
    exact exit_plain rfl rfl

theorem entAt_in {r : Rft} {k : Int} (h1 : r.hard.base < k) (h2 : k ≤ lastR r) : (entAt r.hard k).isSome = true := by
  rw [entAt_some h1 (by unfold lastR at h2; omega)]; rfl

def agreeP (a b : Rft) : Prop := bothAll (agreeE a b) a b

set_option maxHeartbeats 2000000 in
theorem c_rPair (a b : Rft) (sa : a.small) (sb : b.small) : Ctr Try.prog 181 [.ag a.enc, .ag b.enc] (.tu [bv (dec (matchP a b)), bv (dec (agreeP a b))]) [] := by
  refine spec_of_body mixed Try.func181 rfl (by kernel_rfl) (by kernel_rfl) ?_; conv => whnf
  ((try ((refine Exists.intro none ?_); (conv => whnf))); first | ((with_reducible refine call_by (c_logged a) ?_); conv => whnf))
  ((first | (with_reducible refine split_dec (fun h => ?_) (fun h => ?_)) | (with_reducible refine split_beq (fun h => ?_) (fun h => ?_)) | (with_reducible refine split_bne (fun h => ?_) (fun h => ?_)) | (with_reducible refine split_not (fun h => ?_) (fun h => ?_)) | (with_reducible refine split_beqS (fun h => ?_) (fun h => ?_)) | (with_reducible refine split_intro (fun h => ?_) (fun h => ?_))) <;> conv => whnf)
  · exact exit_plain rfl (by rw [dec_true, dec_true]; intro h1; rw [h] at h1; cases h1; intro h1; rw [h] at h1; cases h1)
  have ha := h
  ((try ((refine Exists.intro none ?_); (conv => whnf))); first | ((with_reducible refine call_by (c_logged b) ?_); conv => whnf))
  ((first | (with_reducible refine split_dec (fun h => ?_) (fun h => ?_)) | (with_reducible refine split_beq (fun h => ?_) (fun h => ?_)) | (with_reducible refine split_bne (fun h => ?_) (fun h => ?_)) | (with_reducible refine split_not (fun h => ?_) (fun h => ?_)) | (with_reducible refine split_beqS (fun h => ?_) (fun h => ?_)) | (with_reducible refine split_intro (fun h => ?_) (fun h => ?_))) <;> conv => whnf)
  · exact exit_plain rfl (by rw [dec_true, dec_true]; intro _ h1; rw [h] at h1; cases h1; intro _ h1; rw [h] at h1; cases h1)
  have hb := h
  have ra := lkB_iff.1 ha
  have rb := lkB_iff.1 hb
  have la := sa.log
  have lb := sb.log
  obtain ⟨lo, hlo⟩ : ∃ lo : Int, lo = max a.hard.base b.hard.base + 1 := ⟨_, rfl⟩
  obtain ⟨hi, hhi⟩ : ∃ hi : Int, hi = min (lastR a) (lastR b) := ⟨_, rfl⟩
  have elo : IntKind.i64.wrap ((if a.hard.base < b.hard.base then b.hard.base else a.hard.base) + 1) = lo := by
    rw [wrap_id (by split <;> omega) (by split <;> omega)]; split <;> omega
  have ea : IntKind.i64.wrap (a.hard.base + (a.hard.log.length : Int)) = lastR a := wrap_id (by omega) (by omega)
  have eb : IntKind.i64.wrap (b.hard.base + (b.hard.log.length : Int)) = lastR b := wrap_id (by omega) (by omega)
  have ehi : (if IntKind.i64.wrap (b.hard.base + (b.hard.log.length : Int)) < IntKind.i64.wrap (a.hard.base + (a.hard.log.length : Int)) then IntKind.i64.wrap (b.hard.base + (b.hard.log.length : Int)) else IntKind.i64.wrap (a.hard.base + (a.hard.log.length : Int))) = hi := by
    rw [ea, eb]; split <;> omega
  have hin : ∀ n, lo ≤ n → n ≤ hi → isI n ∧ (entAt a.hard n).isSome = true ∧ (entAt b.hard n).isSome = true := by
    intro n n1 n2
    exact ⟨by unfold isI; unfold lastR at hhi; omega, entAt_in (by omega) (by omega), entAt_in (by omega) (by omega)⟩
  refine tri_forB mixed (by kernel_rfl) (fun x : Int × Int => lo ≤ x.1 ∧ (x.1 ≤ hi + 1 ∨ x.1 = lo) ∧ (x.2 = 0 ∨ (lo ≤ x.2 ∧ x.2 < x.1 ∧ oneT a b x.2)) ∧ ∀ m, lo ≤ m → m < x.1 → oneT a b m → m ≤ x.2) (fun x => [(11, iv x.1), (10, iv x.2), (8, iv lo), (9, iv hi)]) (fun _ => [(2, a.enc), (3, b.enc)]) [] (fun x => (hi + 1 - x.1).toNat) (lo, 0) ⟨Int.le_refl _, .inr rfl, .inl rfl, fun m m1 m2 => absurd m1 (by omega)⟩ ?_ ?_
  · conv => whnf
    (refine And.intro (And.intro (by with_unfolding_all rfl) (by intro q h; cases h)) ?_; refine And.intro ?_ (And.intro ?_ ?_) <;> (conv => whnf) <;> (repeat' (first | exact True.intro | (with_reducible exact rfl) | exact (rfl : List.replicate 0 PV.bad = []) | ((with_reducible refine And.intro ?_ ?_) <;> (first | (with_reducible exact wkV_same _ rfl) | exact wkV_pt rfl rfl | exact wkV_ow rfl rfl rfl | (refine wkV_ow rfl rfl ?_) | (refine wkV_sc (congrArg (Value.int .i64) ?_)) | (refine wkV_sc (congrArg Value.bool ?_)) | exact wkV_ls rfl | ((refine wkV_cl ?_); conv => whnf) | ((refine wkV_tu ?_); conv => whnf) | ((refine wkV_ag ?_); conv => whnf) | (conv => whnf))))))
    all_goals first | rfl | exact elo | (simp only [List.length_map]; exact ehi)
  rintro ⟨n, top⟩ ⟨hn1, hn2, ht1, ht2⟩
  simp only at hn1 hn2 ht1 ht2
  conv => whnf
  ((first | (with_reducible refine split_dec (fun h => ?_) (fun h => ?_)) | (with_reducible refine split_beq (fun h => ?_) (fun h => ?_)) | (with_reducible refine split_bne (fun h => ?_) (fun h => ?_)) | (with_reducible refine split_not (fun h => ?_) (fun h => ?_)) | (with_reducible refine split_beqS (fun h => ?_) (fun h => ?_)) | (with_reducible refine split_intro (fun h => ?_) (fun h => ?_))) <;> conv => whnf)
  · obtain ⟨g1, g2, g3⟩ := hin n hn1 h
    have hc := c_rBoth a b sa sb ha hb n g1
    rw [g2, g3] at hc
    ((try ((refine Exists.intro none ?_); (conv => whnf))); first | ((with_reducible refine call_by (hc) ?_); conv => whnf))
    ((first | (with_reducible refine split_dec (fun h => ?_) (fun h => ?_)) | (with_reducible refine split_beq (fun h => ?_) (fun h => ?_)) | (with_reducible refine split_bne (fun h => ?_) (fun h => ?_)) | (with_reducible refine split_not (fun h => ?_) (fun h => ?_)) | (with_reducible refine split_beqS (fun h => ?_) (fun h => ?_)) | (with_reducible refine split_intro (fun h => ?_) (fun h => ?_))) <;> conv => whnf)
    · refine ⟨(n + 1, n), ⟨⟨by omega, .inl (by omega), .inr ⟨hn1, by omega, h⟩, fun m m1 m2 _ => by omega⟩, by omega⟩, ?_⟩
      conv => whnf
      (refine And.intro (And.intro (by with_unfolding_all rfl) (by intro q h; cases h)) ?_; refine And.intro ?_ (And.intro ?_ ?_) <;> (conv => whnf) <;> (repeat' (first | exact True.intro | (with_reducible exact rfl) | exact (rfl : List.replicate 0 PV.bad = []) | ((with_reducible refine And.intro ?_ ?_) <;> (first | (with_reducible exact wkV_same _ rfl) | exact wkV_pt rfl rfl | exact wkV_ow rfl rfl rfl | (refine wkV_ow rfl rfl ?_) | (refine wkV_sc (congrArg (Value.int .i64) ?_)) | (refine wkV_sc (congrArg Value.bool ?_)) | exact wkV_ls rfl | ((refine wkV_cl ?_); conv => whnf) | ((refine wkV_tu ?_); conv => whnf) | ((refine wkV_ag ?_); conv => whnf) | (conv => whnf))))))
      all_goals first | rfl | (exact wrap_id (by omega) (by unfold lastR at hhi; omega))
    · refine ⟨(n + 1, top), ⟨⟨by omega, .inl (by omega), ?_, ?_⟩, by omega⟩, ?_⟩
      · rcases ht1 with e | ⟨e1, e2, e3⟩
        · exact .inl e
        · exact .inr ⟨e1, by omega, e3⟩
      · intro m m1 m2 m3
        by_cases e : m = n
        · subst e; exact absurd m3 h
        · exact ht2 m m1 (by omega) m3
      conv => whnf
      (refine And.intro (And.intro (by with_unfolding_all rfl) (by intro q h; cases h)) ?_; refine And.intro ?_ (And.intro ?_ ?_) <;> (conv => whnf) <;> (repeat' (first | exact True.intro | (with_reducible exact rfl) | exact (rfl : List.replicate 0 PV.bad = []) | ((with_reducible refine And.intro ?_ ?_) <;> (first | (with_reducible exact wkV_same _ rfl) | exact wkV_pt rfl rfl | exact wkV_ow rfl rfl rfl | (refine wkV_ow rfl rfl ?_) | (refine wkV_sc (congrArg (Value.int .i64) ?_)) | (refine wkV_sc (congrArg Value.bool ?_)) | exact wkV_ls rfl | ((refine wkV_cl ?_); conv => whnf) | ((refine wkV_tu ?_); conv => whnf) | ((refine wkV_ag ?_); conv => whnf) | (conv => whnf))))))
      all_goals first | rfl | (exact wrap_id (by omega) (by unfold lastR at hhi; omega))
  · have hend : ∀ m, lo ≤ m → m ≤ hi → oneT a b m → m ≤ top := fun m m1 m2 m3 => ht2 m m1 (by omega) m3
    have htop : top = 0 ∨ (lo ≤ top ∧ top ≤ hi ∧ oneT a b top) := by
      rcases ht1 with e | ⟨e1, e2, e3⟩
      · exact .inl e
      · exact .inr ⟨e1, by omega, e3⟩
    clear ht1 ht2 hn1 hn2
    refine tri_forB mixed (by kernel_rfl) (fun x : Int × Bool × Bool => lo ≤ x.1 ∧ (x.1 ≤ hi + 1 ∨ x.1 = lo) ∧ (x.2.1 = true ↔ ∀ m, lo ≤ m → m < x.1 → (entE a m).nrm = (entE b m).nrm ∨ top < m) ∧ (x.2.2 = true ↔ ∀ m, lo ≤ m → m < x.1 → (entE a m).nrm = (entE b m).nrm ∨ min a.commit b.commit < m)) (fun x => [(15, iv x.1), (6, bv x.2.1), (7, bv x.2.2), (8, iv lo), (9, iv hi), (10, iv top)]) (fun _ => [(2, a.enc), (3, b.enc)]) [] (fun x => (hi + 1 - x.1).toNat) (lo, true, true) ⟨Int.le_refl _, .inr rfl, by simp; intro m m1 m2; omega, by simp; intro m m1 m2; omega⟩ ?_ ?_
    · conv => whnf
      (refine And.intro (And.intro (by with_unfolding_all rfl) (by intro q h; cases h)) ?_; refine And.intro ?_ (And.intro ?_ ?_) <;> (conv => whnf) <;> (repeat' (first | exact True.intro | (with_reducible exact rfl) | exact (rfl : List.replicate 0 PV.bad = []) | ((with_reducible refine And.intro ?_ ?_) <;> (first | (with_reducible exact wkV_same _ rfl) | exact wkV_pt rfl rfl | exact wkV_ow rfl rfl rfl | (refine wkV_ow rfl rfl ?_) | (refine wkV_sc (congrArg (Value.int .i64) ?_)) | (refine wkV_sc (congrArg Value.bool ?_)) | exact wkV_ls rfl | ((refine wkV_cl ?_); conv => whnf) | ((refine wkV_tu ?_); conv => whnf) | ((refine wkV_ag ?_); conv => whnf) | (conv => whnf))))))
      all_goals rfl
    rintro ⟨n, mt, ag⟩ ⟨hn1, hn2, hm, hg⟩
    simp only at hn1 hn2 hm hg
    conv => whnf
    ((first | (with_reducible refine split_dec (fun h => ?_) (fun h => ?_)) | (with_reducible refine split_beq (fun h => ?_) (fun h => ?_)) | (with_reducible refine split_bne (fun h => ?_) (fun h => ?_)) | (with_reducible refine split_not (fun h => ?_) (fun h => ?_)) | (with_reducible refine split_beqS (fun h => ?_) (fun h => ?_)) | (with_reducible refine split_intro (fun h => ?_) (fun h => ?_))) <;> conv => whnf)
    · obtain ⟨g1, g2, g3⟩ := hin n hn1 h
      have hc := c_rBoth a b sa sb ha hb n g1
      rw [g2, g3] at hc
      ((try ((refine Exists.intro none ?_); (conv => whnf))); first | ((with_reducible refine call_by (hc) ?_); conv => whnf))
      ((try ((refine Exists.intro none ?_); (conv => whnf))); first | ((with_reducible refine call_by (c_kEntry (entE a n) (entE b n)) ?_); conv => whnf))
      have next : ∀ (t : Bool) (p : Int → Prop), (t = true ↔ ∀ m, lo ≤ m → m < n → p m) → ∀ t' : Bool, (t' = true ↔ t = true ∧ p n) → (t' = true ↔ ∀ m, lo ≤ m → m < n + 1 → p m) := by
        intro t p h1 t' h2
        rw [h2, h1]
        constructor
        · rintro ⟨h3, h4⟩ m m1 m2
          by_cases e : m = n
          · subst e; exact h4
          · exact h3 m m1 (by omega)
        · intro h3; exact ⟨fun m m1 m2 => h3 m m1 (by omega), h3 n hn1 (by omega)⟩
      have emin : (if b.commit < a.commit then b.commit else a.commit) = min a.commit b.commit := by split <;> omega
      ((first | (with_reducible refine split_dec (fun h => ?_) (fun h => ?_)) | (with_reducible refine split_beq (fun h => ?_) (fun h => ?_)) | (with_reducible refine split_bne (fun h => ?_) (fun h => ?_)) | (with_reducible refine split_not (fun h => ?_) (fun h => ?_)) | (with_reducible refine split_beqS (fun h => ?_) (fun h => ?_)) | (with_reducible refine split_intro (fun h => ?_) (fun h => ?_))) <;> conv => whnf)
      · have hne : ¬ (entE a n).nrm = (entE b n).nrm := of_decide_eq_false h
        have n1 := next mt _ hm (mt && decide (top < n)) (by simp [hne])
        have n2 := next ag _ hg (ag && decide (min a.commit b.commit < n)) (by simp [hne])
        cases mt <;> (conv => whnf) <;> cases ag <;> (conv => whnf)
        all_goals refine ⟨(n + 1, _, _), ⟨⟨by omega, .inl (by omega), n1, n2⟩, by omega⟩, ?_⟩
        all_goals conv => whnf
        all_goals (refine And.intro (And.intro (by with_unfolding_all rfl) (by intro q h; cases h)) ?_; refine And.intro ?_ (And.intro ?_ ?_) <;> (conv => whnf) <;> (repeat' (first | exact True.intro | (with_reducible exact rfl) | exact (rfl : List.replicate 0 PV.bad = []) | ((with_reducible refine And.intro ?_ ?_) <;> (first | (with_reducible exact wkV_same _ rfl) | exact wkV_pt rfl rfl | exact wkV_ow rfl rfl rfl | (refine wkV_ow rfl rfl ?_) | (refine wkV_sc (congrArg (Value.int .i64) ?_)) | (refine wkV_sc (congrArg Value.bool ?_)) | exact wkV_ls rfl | ((refine wkV_cl ?_); conv => whnf) | ((refine wkV_tu ?_); conv => whnf) | ((refine wkV_ag ?_); conv => whnf) | (conv => whnf))))))
        all_goals first | rfl | (exact wrap_id (by omega) (by unfold lastR at hhi; omega)) | (rw [emin]; rfl)
      · have he : (entE a n).nrm = (entE b n).nrm := of_decide_eq_true h
        refine ⟨(n + 1, mt, ag), ⟨⟨by omega, .inl (by omega), next mt _ hm mt ⟨fun e => ⟨e, .inl he⟩, And.left⟩, next ag _ hg ag ⟨fun e => ⟨e, .inl he⟩, And.left⟩⟩, by omega⟩, ?_⟩
        conv => whnf
        (refine And.intro (And.intro (by with_unfolding_all rfl) (by intro q h; cases h)) ?_; refine And.intro ?_ (And.intro ?_ ?_) <;> (conv => whnf) <;> (repeat' (first | exact True.intro | (with_reducible exact rfl) | exact (rfl : List.replicate 0 PV.bad = []) | ((with_reducible refine And.intro ?_ ?_) <;> (first | (with_reducible exact wkV_same _ rfl) | exact wkV_pt rfl rfl | exact wkV_ow rfl rfl rfl | (refine wkV_ow rfl rfl ?_) | (refine wkV_sc (congrArg (Value.int .i64) ?_)) | (refine wkV_sc (congrArg Value.bool ?_)) | exact wkV_ls rfl | ((refine wkV_cl ?_); conv => whnf) | ((refine wkV_tu ?_); conv => whnf) | ((refine wkV_ag ?_); conv => whnf) | (conv => whnf))))))
        all_goals first | rfl | (exact wrap_id (by omega) (by unfold lastR at hhi; omega))
    · have hm2 : mt = dec (matchP a b) := by
        rw [Bool.eq_iff_iff, hm, dec_eq_true]
        constructor
        · rintro q _ _ k k1 k2 k3 k4 ⟨m, m1, m2, m3, m4⟩
          rcases q k (by omega) (by omega) with q | q
          · exact q
          · have := hend m (by omega) (by omega) m4
            omega
        · intro q k k1 k2
          by_cases e : top < k
          · exact .inr e
          · left
            refine q ha hb k (by omega) (by omega) (by omega) (by omega) ⟨top, by omega, ?_⟩
            rcases htop with e2 | ⟨e1, e2, e3⟩
            · omega
            · exact ⟨by omega, by omega, e3⟩
      have hg2 : ag = dec (agreeP a b) := by
        rw [Bool.eq_iff_iff, hg, dec_eq_true]
        constructor
        · intro q _ _ k k1 k2 k3 k4
          simp only [agreeE, Bool.or_eq_true, decide_eq_true_eq]
          rcases q k (by omega) (by omega) with q | q
          · exact .inr (.inr q)
          · by_cases e : a.commit < k
            · exact .inl e
            · exact .inr (.inl (by omega))
        · intro q k k1 k2
          have := q ha hb k (by omega) (by omega) (by omega) (by omega)
          simp only [agreeE, Bool.or_eq_true, decide_eq_true_eq] at this
          rcases this with q | q | q
          · exact .inr (by omega)
          · exact .inr (by omega)
          · exact .inl q
      exact exit_plain rfl (by rw [hm2, hg2])
end Go.Proofs

/- Contracts of functions: logs that match, that agree, of many (the reference's); what is more than is played; twins as values. -/
namespace Go.Proofs
open Go.Pv
set_option maxRecDepth 100000

theorem matchP_comm (a b : Rft) : matchP a b ↔ matchP b a := by
  have one : ∀ a b : Rft, matchP a b → matchP b a := by
    intro a b h ha hb k k1 k2 k3 k4 ⟨n, n1, n2, n3, n4⟩
    exact (h hb ha k k2 k1 k4 k3 ⟨n, n1, n3, n2, n4.symm⟩).symm
  exact ⟨one a b, one b a⟩
theorem agreeP_comm (a b : Rft) : agreeP a b ↔ agreeP b a := by
  have one : ∀ a b : Rft, agreeP a b → agreeP b a := by
    intro a b h ha hb k k1 k2 k3 k4
    have := h hb ha k k2 k1 k4 k3
    simp only [agreeE, Bool.or_eq_true, decide_eq_true_eq] at this ⊢
    rcases this with q | q | q
    · exact .inr (.inl q)
    · exact .inl q
    · exact .inr (.inr q.symm)
  exact ⟨one a b, one b a⟩

theorem c_rMatches (l : List Rft) (hl : l.length ≤ maxLen) (hs : ∀ r ∈ l, r.small) : Ctr Try.prog 85 [.sl 40 (l.map Rft.enc)] (bv (dec (pairsP matchF l))) [] := by
  have hl' : l.length ≤ 9223372036854775807 := Nat.le_trans hl (by decide)
  refine spec_of_body mixed Try.func85 rfl (by kernel_rfl) (by kernel_rfl) ?_; conv => whnf
  refine tri_for0 mixed (by kernel_rfl) (fun i : Nat => i ≤ l.length ∧ ∀ j (hj : j < l.length), j < i → ∀ k (hk : k < j), matchF (l[k]'(Nat.lt_trans hk hj)) (l[j]'hj) = true) (fun i => [(3, iv i)]) [] (fun i => l.length - i) 0 ⟨Nat.zero_le _, fun j _ h => absurd h (Nat.not_lt_zero _)⟩ ?_ ?_
  · conv => whnf
    (refine And.intro (And.intro (by with_unfolding_all rfl) (by intro q h; cases h)) ?_; refine And.intro ?_ (And.intro ?_ ?_) <;> (conv => whnf) <;> (repeat' (first | exact True.intro | (with_reducible exact rfl) | exact (rfl : List.replicate 0 PV.bad = []) | ((with_reducible refine And.intro ?_ ?_) <;> (first | (with_reducible exact wkV_same _ rfl) | exact wkV_pt rfl rfl | exact wkV_ow rfl rfl rfl | (refine wkV_ow rfl rfl ?_) | (refine wkV_sc (congrArg (Value.int .i64) ?_)) | (refine wkV_sc (congrArg Value.bool ?_)) | exact wkV_ls rfl | ((refine wkV_cl ?_); conv => whnf) | ((refine wkV_tu ?_); conv => whnf) | ((refine wkV_ag ?_); conv => whnf) | (conv => whnf))))))
    all_goals rfl
  rintro i ⟨hi, hp⟩
  conv => whnf
  ((first | (with_reducible refine split_dec (fun h => ?_) (fun h => ?_)) | (with_reducible refine split_beq (fun h => ?_) (fun h => ?_)) | (with_reducible refine split_bne (fun h => ?_) (fun h => ?_)) | (with_reducible refine split_not (fun h => ?_) (fun h => ?_)) | (with_reducible refine split_beqS (fun h => ?_) (fun h => ?_)) | (with_reducible refine split_intro (fun h => ?_) (fun h => ?_))) <;> conv => whnf)
  · simp only [List.length_map] at h
    have hlt : i < l.length := by omega
    refine tri_for0 mixed (by kernel_rfl) (fun k : Nat => k ≤ i ∧ ∀ j (hj : j < k) (hjl : j < l.length), matchF (l[j]'hjl) (l[i]'hlt) = true) (fun k => [(4, iv k)]) [] (fun k => i - k) 0 ⟨Nat.zero_le _, fun j h => absurd h (Nat.not_lt_zero _)⟩ ?_ ?_
    · conv => whnf
      (refine And.intro (And.intro (by with_unfolding_all rfl) (by intro q h; cases h)) ?_; refine And.intro ?_ (And.intro ?_ ?_) <;> (conv => whnf) <;> (repeat' (first | exact True.intro | (with_reducible exact rfl) | exact (rfl : List.replicate 0 PV.bad = []) | ((with_reducible refine And.intro ?_ ?_) <;> (first | (with_reducible exact wkV_same _ rfl) | exact wkV_pt rfl rfl | exact wkV_ow rfl rfl rfl | (refine wkV_ow rfl rfl ?_) | (refine wkV_sc (congrArg (Value.int .i64) ?_)) | (refine wkV_sc (congrArg Value.bool ?_)) | exact wkV_ls rfl | ((refine wkV_cl ?_); conv => whnf) | ((refine wkV_tu ?_); conv => whnf) | ((refine wkV_ag ?_); conv => whnf) | (conv => whnf))))))
      all_goals rfl
    rintro k ⟨hk, hq⟩
    conv => whnf
    ((first | (with_reducible refine split_dec (fun h => ?_) (fun h => ?_)) | (with_reducible refine split_beq (fun h => ?_) (fun h => ?_)) | (with_reducible refine split_bne (fun h => ?_) (fun h => ?_)) | (with_reducible refine split_not (fun h => ?_) (fun h => ?_)) | (with_reducible refine split_beqS (fun h => ?_) (fun h => ?_)) | (with_reducible refine split_intro (fun h => ?_) (fun h => ?_))) <;> conv => whnf)
    · have hki : k < i := by omega
      have hkl : k < l.length := by omega
      (first | ((with_reducible refine And.intro (by omega) (Exists.intro _ (And.intro (row_at hlt) ?_))); conv => whnf))
      (first | ((with_reducible refine And.intro (by omega) (Exists.intro _ (And.intro (row_at hkl) ?_))); conv => whnf))
      have hc := c_rPair (l[i]'hlt) (l[k]'hkl) (hs _ (List.getElem_mem hlt)) (hs _ (List.getElem_mem hkl))
      rw [dec_iff (matchP_comm (l[i]'hlt) (l[k]'hkl))] at hc
      ((try ((refine Exists.intro none ?_); (conv => whnf))); first | ((with_reducible refine call_by (hc) ?_); conv => whnf))
      ((first | (with_reducible refine split_dec (fun h => ?_) (fun h => ?_)) | (with_reducible refine split_beq (fun h => ?_) (fun h => ?_)) | (with_reducible refine split_bne (fun h => ?_) (fun h => ?_)) | (with_reducible refine split_not (fun h => ?_) (fun h => ?_)) | (with_reducible refine split_beqS (fun h => ?_) (fun h => ?_)) | (with_reducible refine split_intro (fun h => ?_) (fun h => ?_))) <;> conv => whnf)
      · refine exit_plain rfl ?_
        rw [dec_false]
        intro hh
        have := hh i hlt k hki
        unfold matchF at this
        rw [this] at h; cases h
      · refine ⟨k + 1, ⟨⟨by omega, ?_⟩, by omega⟩, ?_⟩
        · intro j hj hjl
          by_cases e : j = k
          · subst e; exact h
          · exact hq j (by omega) hjl
        · conv => whnf
          (refine And.intro (And.intro (by with_unfolding_all rfl) (by intro q h; cases h)) ?_; refine And.intro ?_ (And.intro ?_ ?_) <;> (conv => whnf) <;> (repeat' (first | exact True.intro | (with_reducible exact rfl) | exact (rfl : List.replicate 0 PV.bad = []) | ((with_reducible refine And.intro ?_ ?_) <;> (first | (with_reducible exact wkV_same _ rfl) | exact wkV_pt rfl rfl | exact wkV_ow rfl rfl rfl | (refine wkV_ow rfl rfl ?_) | (refine wkV_sc (congrArg (Value.int .i64) ?_)) | (refine wkV_sc (congrArg Value.bool ?_)) | exact wkV_ls rfl | ((refine wkV_cl ?_); conv => whnf) | ((refine wkV_tu ?_); conv => whnf) | ((refine wkV_ag ?_); conv => whnf) | (conv => whnf))))))
          all_goals first | exact w1 (by omega) | rfl
    · have : k = i := by omega
      subst this
      refine ⟨k + 1, ⟨⟨by omega, ?_⟩, by omega⟩, ?_⟩
      · intro j hj hji m hm
        by_cases e : j = k
        · subst e; exact hq m hm (by omega)
        · exact hp j hj (by omega) m hm
      · conv => whnf
        (refine And.intro (And.intro (by with_unfolding_all rfl) (by intro q h; cases h)) ?_; refine And.intro ?_ (And.intro ?_ ?_) <;> (conv => whnf) <;> (repeat' (first | exact True.intro | (with_reducible exact rfl) | exact (rfl : List.replicate 0 PV.bad = []) | ((with_reducible refine And.intro ?_ ?_) <;> (first | (with_reducible exact wkV_same _ rfl) | exact wkV_pt rfl rfl | exact wkV_ow rfl rfl rfl | (refine wkV_ow rfl rfl ?_) | (refine wkV_sc (congrArg (Value.int .i64) ?_)) | (refine wkV_sc (congrArg Value.bool ?_)) | exact wkV_ls rfl | ((refine wkV_cl ?_); conv => whnf) | ((refine wkV_tu ?_); conv => whnf) | ((refine wkV_ag ?_); conv => whnf) | (conv => whnf))))))
        all_goals first | exact w1 (by omega) | rfl
  · simp only [List.length_map] at h
    have : i = l.length := by omega
    subst this
    refine exit_plain rfl ?_
    rw [dec_true]
    intro i hi k hk
    exact hp i hi hi k hk

theorem c_rAgrees (l : List Rft) (hl : l.length ≤ maxLen) (hs : ∀ r ∈ l, r.small) : Ctr Try.prog 87 [.sl 40 (l.map Rft.enc)] (bv (dec (pairsP agreeF l))) [] := by
  have hl' : l.length ≤ 9223372036854775807 := Nat.le_trans hl (by decide)
  refine spec_of_body mixed Try.func87 rfl (by kernel_rfl) (by kernel_rfl) ?_; conv => whnf
  refine tri_for0 mixed (by kernel_rfl) (fun i : Nat => i ≤ l.length ∧ ∀ j (hj : j < l.length), j < i → ∀ k (hk : k < j), agreeF (l[k]'(Nat.lt_trans hk hj)) (l[j]'hj) = true) (fun i => [(3, iv i)]) [] (fun i => l.length - i) 0 ⟨Nat.zero_le _, fun j _ h => absurd h (Nat.not_lt_zero _)⟩ ?_ ?_
  · conv => whnf
    (refine And.intro (And.intro (by with_unfolding_all rfl) (by intro q h; cases h)) ?_; refine And.intro ?_ (And.intro ?_ ?_) <;> (conv => whnf) <;> (repeat' (first | exact True.intro | (with_reducible exact rfl) | exact (rfl : List.replicate 0 PV.bad = []) | ((with_reducible refine And.intro ?_ ?_) <;> (first | (with_reducible exact wkV_same _ rfl) | exact wkV_pt rfl rfl | exact wkV_ow rfl rfl rfl | (refine wkV_ow rfl rfl ?_) | (refine wkV_sc (congrArg (Value.int .i64) ?_)) | (refine wkV_sc (congrArg Value.bool ?_)) | exact wkV_ls rfl | ((refine wkV_cl ?_); conv => whnf) | ((refine wkV_tu ?_); conv => whnf) | ((refine wkV_ag ?_); conv => whnf) | (conv => whnf))))))
    all_goals rfl
  rintro i ⟨hi, hp⟩
  conv => whnf
  ((first | (with_reducible refine split_dec (fun h => ?_) (fun h => ?_)) | (with_reducible refine split_beq (fun h => ?_) (fun h => ?_)) | (with_reducible refine split_bne (fun h => ?_) (fun h => ?_)) | (with_reducible refine split_not (fun h => ?_) (fun h => ?_)) | (with_reducible refine split_beqS (fun h => ?_) (fun h => ?_)) | (with_reducible refine split_intro (fun h => ?_) (fun h => ?_))) <;> conv => whnf)
  · simp only [List.length_map] at h
    have hlt : i < l.length := by omega
    refine tri_for0 mixed (by kernel_rfl) (fun k : Nat => k ≤ i ∧ ∀ j (hj : j < k) (hjl : j < l.length), agreeF (l[j]'hjl) (l[i]'hlt) = true) (fun k => [(4, iv k)]) [] (fun k => i - k) 0 ⟨Nat.zero_le _, fun j h => absurd h (Nat.not_lt_zero _)⟩ ?_ ?_
    · conv => whnf
      (refine And.intro (And.intro (by with_unfolding_all rfl) (by intro q h; cases h)) ?_; refine And.intro ?_ (And.intro ?_ ?_) <;> (conv => whnf) <;> (repeat' (first | exact True.intro | (with_reducible exact rfl) | exact (rfl : List.replicate 0 PV.bad = []) | ((with_reducible refine And.intro ?_ ?_) <;> (first | (with_reducible exact wkV_same _ rfl) | exact wkV_pt rfl rfl | exact wkV_ow rfl rfl rfl | (refine wkV_ow rfl rfl ?_) | (refine wkV_sc (congrArg (Value.int .i64) ?_)) | (refine wkV_sc (congrArg Value.bool ?_)) | exact wkV_ls rfl | ((refine wkV_cl ?_); conv => whnf) | ((refine wkV_tu ?_); conv => whnf) | ((refine wkV_ag ?_); conv => whnf) | (conv => whnf))))))
      all_goals rfl
    rintro k ⟨hk, hq⟩
    conv => whnf
    ((first | (with_reducible refine split_dec (fun h => ?_) (fun h => ?_)) | (with_reducible refine split_beq (fun h => ?_) (fun h => ?_)) | (with_reducible refine split_bne (fun h => ?_) (fun h => ?_)) | (with_reducible refine split_not (fun h => ?_) (fun h => ?_)) | (with_reducible refine split_beqS (fun h => ?_) (fun h => ?_)) | (with_reducible refine split_intro (fun h => ?_) (fun h => ?_))) <;> conv => whnf)
    · have hki : k < i := by omega
      have hkl : k < l.length := by omega
      (first | ((with_reducible refine And.intro (by omega) (Exists.intro _ (And.intro (row_at hlt) ?_))); conv => whnf))
      (first | ((with_reducible refine And.intro (by omega) (Exists.intro _ (And.intro (row_at hkl) ?_))); conv => whnf))
      have hc := c_rPair (l[i]'hlt) (l[k]'hkl) (hs _ (List.getElem_mem hlt)) (hs _ (List.getElem_mem hkl))
      rw [dec_iff (agreeP_comm (l[i]'hlt) (l[k]'hkl))] at hc
      ((try ((refine Exists.intro none ?_); (conv => whnf))); first | ((with_reducible refine call_by (hc) ?_); conv => whnf))
      ((first | (with_reducible refine split_dec (fun h => ?_) (fun h => ?_)) | (with_reducible refine split_beq (fun h => ?_) (fun h => ?_)) | (with_reducible refine split_bne (fun h => ?_) (fun h => ?_)) | (with_reducible refine split_not (fun h => ?_) (fun h => ?_)) | (with_reducible refine split_beqS (fun h => ?_) (fun h => ?_)) | (with_reducible refine split_intro (fun h => ?_) (fun h => ?_))) <;> conv => whnf)
      · refine exit_plain rfl ?_
        rw [dec_false]
        intro hh
        have := hh i hlt k hki
        have h2 : dec (agreeP (l[k]'hkl) (l[i]'hlt)) = true := this
        rw [h2] at h; cases h
      · refine ⟨k + 1, ⟨⟨by omega, ?_⟩, by omega⟩, ?_⟩
        · intro j hj hjl
          by_cases e : j = k
          · subst e; exact h
          · exact hq j (by omega) hjl
        · conv => whnf
          (refine And.intro (And.intro (by with_unfolding_all rfl) (by intro q h; cases h)) ?_; refine And.intro ?_ (And.intro ?_ ?_) <;> (conv => whnf) <;> (repeat' (first | exact True.intro | (with_reducible exact rfl) | exact (rfl : List.replicate 0 PV.bad = []) | ((with_reducible refine And.intro ?_ ?_) <;> (first | (with_reducible exact wkV_same _ rfl) | exact wkV_pt rfl rfl | exact wkV_ow rfl rfl rfl | (refine wkV_ow rfl rfl ?_) | (refine wkV_sc (congrArg (Value.int .i64) ?_)) | (refine wkV_sc (congrArg Value.bool ?_)) | exact wkV_ls rfl | ((refine wkV_cl ?_); conv => whnf) | ((refine wkV_tu ?_); conv => whnf) | ((refine wkV_ag ?_); conv => whnf) | (conv => whnf))))))
          all_goals first | exact w1 (by omega) | rfl
    · have : k = i := by omega
      subst this
      refine ⟨k + 1, ⟨⟨by omega, ?_⟩, by omega⟩, ?_⟩
      · intro j hj hji m hm
        by_cases e : j = k
        · subst e; exact hq m hm (by omega)
        · exact hp j hj (by omega) m hm
      · conv => whnf
        (refine And.intro (And.intro (by with_unfolding_all rfl) (by intro q h; cases h)) ?_; refine And.intro ?_ (And.intro ?_ ?_) <;> (conv => whnf) <;> (repeat' (first | exact True.intro | (with_reducible exact rfl) | exact (rfl : List.replicate 0 PV.bad = []) | ((with_reducible refine And.intro ?_ ?_) <;> (first | (with_reducible exact wkV_same _ rfl) | exact wkV_pt rfl rfl | exact wkV_ow rfl rfl rfl | (refine wkV_ow rfl rfl ?_) | (refine wkV_sc (congrArg (Value.int .i64) ?_)) | (refine wkV_sc (congrArg Value.bool ?_)) | exact wkV_ls rfl | ((refine wkV_cl ?_); conv => whnf) | ((refine wkV_tu ?_); conv => whnf) | ((refine wkV_ag ?_); conv => whnf) | (conv => whnf))))))
        all_goals first | exact w1 (by omega) | rfl
  · simp only [List.length_map] at h
    have : i = l.length := by omega
    subst this
    refine exit_plain rfl ?_
    rw [dec_true]
    intro i hi k hk
    exact hp i hi hi k hk

def heavy1 (r : Rft) : Bool := heavyH r.hard || decide (200 < (r.reads.length : Int))
def heavyL (l : List Rft) : Bool := decide (30 < (l.length : Int)) || l.any heavy1
theorem c_heavy26 (l : List Rft) : Ctr Try.prog 81 [.sl 40 (l.map Rft.enc)] (bv (heavyL l)) [] := by
  refine spec_of_body mixed Try.func81 rfl (by kernel_rfl) (by kernel_rfl) ?_; conv => whnf
  ((first | (with_reducible refine split_dec (fun h => ?_) (fun h => ?_)) | (with_reducible refine split_beq (fun h => ?_) (fun h => ?_)) | (with_reducible refine split_bne (fun h => ?_) (fun h => ?_)) | (with_reducible refine split_not (fun h => ?_) (fun h => ?_)) | (with_reducible refine split_beqS (fun h => ?_) (fun h => ?_)) | (with_reducible refine split_intro (fun h => ?_) (fun h => ?_))) <;> conv => whnf)
  · exact exit_plain rfl (by simp at h; simp [heavyL, h])
  · have hl : l.length ≤ 30 := by simp at h; omega
    refine tri_for0 mixed (by kernel_rfl) (fun i : Nat => i ≤ l.length ∧ ∀ j (hj : j < l.length), j < i → heavy1 (l[j]'hj) = false) (fun i => [(3, iv i)]) [] (fun i => l.length - i) 0 ⟨Nat.zero_le _, fun j _ h => absurd h (Nat.not_lt_zero _)⟩ ?_ ?_
    · conv => whnf
      (refine And.intro (And.intro (by with_unfolding_all rfl) (by intro q h; cases h)) ?_; refine And.intro ?_ (And.intro ?_ ?_) <;> (conv => whnf) <;> (repeat' (first | exact True.intro | (with_reducible exact rfl) | exact (rfl : List.replicate 0 PV.bad = []) | ((with_reducible refine And.intro ?_ ?_) <;> (first | (with_reducible exact wkV_same _ rfl) | exact wkV_pt rfl rfl | exact wkV_ow rfl rfl rfl | (refine wkV_ow rfl rfl ?_) | (refine wkV_sc (congrArg (Value.int .i64) ?_)) | (refine wkV_sc (congrArg Value.bool ?_)) | exact wkV_ls rfl | ((refine wkV_cl ?_); conv => whnf) | ((refine wkV_tu ?_); conv => whnf) | ((refine wkV_ag ?_); conv => whnf) | (conv => whnf))))))
      all_goals rfl
    · rintro i ⟨hi, hp⟩
      conv => whnf
      ((first | (with_reducible refine split_dec (fun h => ?_) (fun h => ?_)) | (with_reducible refine split_beq (fun h => ?_) (fun h => ?_)) | (with_reducible refine split_bne (fun h => ?_) (fun h => ?_)) | (with_reducible refine split_not (fun h => ?_) (fun h => ?_)) | (with_reducible refine split_beqS (fun h => ?_) (fun h => ?_)) | (with_reducible refine split_intro (fun h => ?_) (fun h => ?_))) <;> conv => whnf)
      · have hlt : i < l.length := by simp at h; omega
        have stop : heavy1 (l[i]'hlt) = true → heavyL l = true := fun hh => by
          have := any_at (p := heavy1) hlt hh
          simp [heavyL, this]
        (first | ((with_reducible refine And.intro (by omega) (Exists.intro _ (And.intro (row_at hlt) ?_))); conv => whnf))
        ((try ((refine Exists.intro none ?_); (conv => whnf))); first | ((with_reducible refine call_by (c_Heavy09 (l[i]'hlt).hard) ?_); conv => whnf))
        ((first | (with_reducible refine split_dec (fun h => ?_) (fun h => ?_)) | (with_reducible refine split_beq (fun h => ?_) (fun h => ?_)) | (with_reducible refine split_bne (fun h => ?_) (fun h => ?_)) | (with_reducible refine split_not (fun h => ?_) (fun h => ?_)) | (with_reducible refine split_beqS (fun h => ?_) (fun h => ?_)) | (with_reducible refine split_intro (fun h => ?_) (fun h => ?_))) <;> conv => whnf)
        · exact exit_plain rfl (by rw [stop (by simp [heavy1, h])])
        · have h0 := h
          (first | ((with_reducible refine And.intro (by omega) (Exists.intro _ (And.intro (row_at hlt) ?_))); conv => whnf))
          ((first | (with_reducible refine split_dec (fun h => ?_) (fun h => ?_)) | (with_reducible refine split_beq (fun h => ?_) (fun h => ?_)) | (with_reducible refine split_bne (fun h => ?_) (fun h => ?_)) | (with_reducible refine split_not (fun h => ?_) (fun h => ?_)) | (with_reducible refine split_beqS (fun h => ?_) (fun h => ?_)) | (with_reducible refine split_intro (fun h => ?_) (fun h => ?_))) <;> conv => whnf)
          · simp only [List.length_map] at h
            exact exit_plain rfl (by rw [stop (by simp [heavy1, h])])
          · simp only [List.length_map] at h
            refine ⟨i + 1, ⟨⟨by omega, ?_⟩, by omega⟩, ?_⟩
            · intro j hj hji
              by_cases e : j = i
              · subst e; unfold heavy1; rw [h0, decide_eq_false h]; rfl
              · exact hp j hj (by omega)
            · conv => whnf
              (refine And.intro (And.intro (by with_unfolding_all rfl) (by intro q h; cases h)) ?_; refine And.intro ?_ (And.intro ?_ ?_) <;> (conv => whnf) <;> (repeat' (first | exact True.intro | (with_reducible exact rfl) | exact (rfl : List.replicate 0 PV.bad = []) | ((with_reducible refine And.intro ?_ ?_) <;> (first | (with_reducible exact wkV_same _ rfl) | exact wkV_pt rfl rfl | exact wkV_ow rfl rfl rfl | (refine wkV_ow rfl rfl ?_) | (refine wkV_sc (congrArg (Value.int .i64) ?_)) | (refine wkV_sc (congrArg Value.bool ?_)) | exact wkV_ls rfl | ((refine wkV_cl ?_); conv => whnf) | ((refine wkV_tu ?_); conv => whnf) | ((refine wkV_ag ?_); conv => whnf) | (conv => whnf))))))
              all_goals first | exact w1 (by omega) | rfl
      · have : i = l.length := by simp at h; omega
        subst this
        refine exit_plain rfl ?_
        have := any_none (p := heavy1) fun j hj => hp j hj hj
        simp only [heavyL, this, Bool.or_false]
        rw [decide_eq_false (by omega)]

theorem heavyL_small {l : List Rft} (h : heavyL l = false) (hok : ∀ r ∈ l, r.ok) : l.length ≤ 30 ∧ ∀ r ∈ l, r.small := by
  unfold heavyL at h
  simp only [Bool.or_eq_false_iff, decide_eq_false_iff_not, List.any_eq_false] at h
  refine ⟨by omega, fun r hr => ?_⟩
  have h1 := h.2 r hr
  simp only [heavy1, heavyH, heavyEs, Bool.not_eq_true, Bool.or_eq_false_iff, decide_eq_false_iff_not] at h1
  obtain ⟨⟨⟨h1, _⟩, h2⟩, h3⟩ := h1
  exact ⟨by omega, (hok r hr).2.1.2.2.1, by omega, by omega⟩

theorem wkV_fz {kb : List Nat} {rn : List (Nat × Nat)} {fz : List (Nat × Bool × Nat × List (List PV))} {k n : Nat} {b : Bool} {sz : Nat} {rows : List (List PV)} (h : (k, b, sz, rows) ∈ fz) (hn : n = rows.length) : WkV kb rn fz (.ow k 0 n) (.sl sz rows) := by
  subst hn
  simp only [WkV]
  exact .inr (.inr ⟨k, 0, _, b, rows, rfl, h, by omega, by simp⟩)

/-- A twin, as a value. -/
theorem c_TwinRaftV (r : Rft) (h : r.small) : Ctr Try.prog 55 [.ag r.enc] (.ag r.enc) [] := by
  refine Ctr.frz (c_TwinRaft r h.snap h.log h.reads) (wkV_ag ?_)
  conv => whnf
  repeat' (first | exact rfl | ((with_reducible refine And.intro ?_ ?_) <;> (first | (with_reducible exact wkV_same _ rfl) | exact wkV_fz (b := false) (List.Mem.head _) rfl | exact wkV_fz (b := false) (List.Mem.tail _ (List.Mem.head _)) rfl | exact wkV_fz (b := false) (List.Mem.tail _ (List.Mem.tail _ (List.Mem.head _))) rfl | (conv => whnf))))
end Go.Proofs
