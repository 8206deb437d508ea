/- Contracts of functions: logs that match, that agree (the program's). -/
import Derived.Test.YtnphfgphajejaaaC23
import Derived.Test.YtnphfgphajejaaaC7
namespace Go.Proofs
open Go.Pv
set_option maxRecDepth 100000

def lkB (r : Rft) : Bool := withinB r.hard.base 0 1099511627776
theorem c_has (r : Rft) : Ctr Try.prog 210 [.ag r.enc] (bv (lkB r)) [] := by
  refine spec_of_body mixed Try.func210 rfl (by kernel_rfl) (by kernel_rfl) ?_; conv => whnf
  repeat' ((first | (with_reducible refine split_dec (fun h => ?_) (fun h => ?_)) | (with_reducible refine split_beq (fun h => ?_) (fun h => ?_)) | (with_reducible refine split_bne (fun h => ?_) (fun h => ?_)) | (with_reducible refine split_not (fun h => ?_) (fun h => ?_)) | (with_reducible refine split_beqS (fun h => ?_) (fun h => ?_)) | (with_reducible refine split_intro (fun h => ?_) (fun h => ?_))) <;> conv => whnf)
  all_goals (refine exit_plain rfl ?_; simp [lkB, withinB, *])
theorem c_logged (r : Rft) : Ctr Try.prog 212 [.ag r.enc] (bv (lkB r)) [] := by
  refine spec_of_body mixed Try.func212 rfl (by kernel_rfl) (by kernel_rfl) ?_; conv => whnf
  repeat' ((first | (with_reducible refine split_dec (fun h => ?_) (fun h => ?_)) | (with_reducible refine split_beq (fun h => ?_) (fun h => ?_)) | (with_reducible refine split_bne (fun h => ?_) (fun h => ?_)) | (with_reducible refine split_not (fun h => ?_) (fun h => ?_)) | (with_reducible refine split_beqS (fun h => ?_) (fun h => ?_)) | (with_reducible refine split_intro (fun h => ?_) (fun h => ?_))) <;> conv => whnf)
  all_goals (refine exit_plain rfl ?_; simp [lkB, withinB, *])

theorem lkB_iff {r : Rft} : lkB r = true ↔ 0 ≤ r.hard.base ∧ r.hard.base ≤ 1099511627776 := by simp [lkB, withinB]

abbrev entE (r : Rft) (k : Int) : Ent := (entAt r.hard k).getD ez

theorem c_aEntry (r : Rft) (hm : r.hard.log.length ≤ maxLen) (hb : isI r.hard.base) (hh : lkB r = true) (i : Int) (hi : isI i) : Ctr Try.prog 211 [.ag r.enc, iv i] (.tu [.ag (entE r i).enc, bv (entAt r.hard i).isSome]) [] := by
  have hc := c_has r
  rw [hh] at hc
  refine spec_of_body mixed Try.func211 rfl (by kernel_rfl) (by kernel_rfl) ?_; conv => whnf
  ((try ((refine Exists.intro none ?_); (conv => whnf))); first | ((with_reducible refine call_by (hc) ?_); conv => whnf))
  ((try ((refine Exists.intro none ?_); (conv => whnf))); first | ((with_reducible refine call_by (c_Entry r.hard hm hb i hi) ?_); conv => whnf))
  exact exit_plain rfl rfl
theorem c_aEntry0 (r : Rft) (hh : lkB r = false) (i : Int) : Ctr Try.prog 211 [.ag r.enc, iv i] (.tu [.ag ez.enc, bv false]) [] := by
  have hc := c_has r
  rw [hh] at hc
  refine spec_of_body mixed Try.func211 rfl (by kernel_rfl) (by kernel_rfl) ?_; conv => whnf
  ((try ((refine Exists.intro none ?_); (conv => whnf))); first | ((with_reducible refine call_by (hc) ?_); conv => whnf))
  exact exit_plain rfl rfl

/-- A replica whose log is played. -/
structure Rft.small (r : Rft) : Prop where
  log : r.hard.log.length ≤ 4294967296
  base : isI r.hard.base
  snap : r.hard.snap.length ≤ 4294967296
  reads : r.reads.length ≤ 4294967296
theorem Rft.small.len {r : Rft} (h : r.small) : r.hard.log.length ≤ maxLen := smallM h.log

abbrev lastR (r : Rft) : Int := r.hard.base + r.hard.log.length
theorem lastI_ok {r : Rft} (h : r.small) (hh : lkB r = true) : lastI r.hard = lastR r := by
  obtain ⟨h1, h2⟩ := lkB_iff.1 hh
  have := h.log
  unfold lastI
  split
  · rename_i e; unfold lastR; rw [e]; simp
  · exact wrap_id (by omega) (by omega)

def bothAll (e : Int → Ent → Ent → Bool) (a b : Rft) : Prop := lkB a = true → lkB b = true → ∀ k : Int, a.hard.base < k → b.hard.base < k → k ≤ lastR a → k ≤ lastR b → e k (entE a k) (entE b k) = true

theorem c_both (a b : Rft) (sa : a.small) (sb : b.small) (g : Nat) (p q : List PV) (e : Int → Ent → Ent → Bool) (he : ∀ k (x y : Ent), Ctr Try.prog g [iv k, .ag x.enc, .ag y.enc, .ep p, .ep q] (bv (e k x y)) []) :
    Ctr Try.prog 178 [.ag a.enc, .ag b.enc, .cl g [.ep p, .ep q]] (bv (dec (bothAll e a b))) [] := by
  refine spec_of_body mixed Try.func178 rfl (by kernel_rfl) (by kernel_rfl) ?_; conv => whnf
  ((try ((refine Exists.intro none ?_); (conv => whnf))); first | ((with_reducible refine call_by (c_has a) ?_); conv => whnf))
  ((first | (with_reducible refine split_dec (fun h => ?_) (fun h => ?_)) | (with_reducible refine split_beq (fun h => ?_) (fun h => ?_)) | (with_reducible refine split_bne (fun h => ?_) (fun h => ?_)) | (with_reducible refine split_not (fun h => ?_) (fun h => ?_)) | (with_reducible refine split_beqS (fun h => ?_) (fun h => ?_)) | (with_reducible refine split_intro (fun h => ?_) (fun h => ?_))) <;> conv => whnf)
  · exact exit_plain rfl (by rw [dec_true]; intro h1; rw [h] at h1; cases h1)
  have ha := h
  ((try ((refine Exists.intro none ?_); (conv => whnf))); first | ((with_reducible refine call_by (c_has b) ?_); conv => whnf))
  ((first | (with_reducible refine split_dec (fun h => ?_) (fun h => ?_)) | (with_reducible refine split_beq (fun h => ?_) (fun h => ?_)) | (with_reducible refine split_bne (fun h => ?_) (fun h => ?_)) | (with_reducible refine split_not (fun h => ?_) (fun h => ?_)) | (with_reducible refine split_beqS (fun h => ?_) (fun h => ?_)) | (with_reducible refine split_intro (fun h => ?_) (fun h => ?_))) <;> conv => whnf)
  · exact exit_plain rfl (by rw [dec_true]; intro _ h1; rw [h] at h1; cases h1)
  have hb := h
  have ea := lastI_ok sa ha
  have eb := lastI_ok sb hb
  have ra := lkB_iff.1 ha
  have rb := lkB_iff.1 hb
  have la := sa.log
  have lb := sb.log
  have ca := c_Last a.hard sa.len
  have cb := c_Last b.hard sb.len
  rw [ea] at ca
  rw [eb] at cb
  ((try ((refine Exists.intro none ?_); (conv => whnf))); first | ((with_reducible refine call_by (ca) ?_); conv => whnf))
  ((try ((refine Exists.intro none ?_); (conv => whnf))); first | ((with_reducible refine call_by (cb) ?_); conv => whnf))
  generalize hhi : (if lastR b < lastR a then lastR b else lastR a) = hi
  have h1 : hi ≤ lastR a := by rw [← hhi]; split <;> omega
  have h2 : hi ≤ lastR b := by rw [← hhi]; split <;> omega
  have h3 : ∀ n, n ≤ lastR a → n ≤ lastR b → n ≤ hi := by intro n; rw [← hhi]; split <;> omega
  refine tri_forB mixed (by kernel_rfl) (fun k : Int => k ≤ hi ∧ (k = hi ∨ (a.hard.base ≤ k ∧ b.hard.base ≤ k)) ∧ ∀ n : Int, a.hard.base < n → b.hard.base < n → k < n → n ≤ hi → e n (entE a n) (entE b n) = true) (fun k => [(11, iv k)]) (fun _ => [(3, a.enc), (4, b.enc)]) [] (fun k => (k - max a.hard.base b.hard.base).toNat) hi ⟨Int.le_refl _, .inl rfl, fun n _ _ h4 h5 => by omega⟩ ?_ ?_
  · conv => whnf
    (refine And.intro (And.intro (by with_unfolding_all rfl) (by intro q h; cases h)) ?_; refine And.intro ?_ (And.intro ?_ ?_) <;> (conv => whnf) <;> (repeat' (first | exact True.intro | (with_reducible exact rfl) | exact (rfl : List.replicate 0 PV.bad = []) | ((with_reducible refine And.intro ?_ ?_) <;> (first | (with_reducible exact wkV_same _ rfl) | exact wkV_pt rfl rfl | exact wkV_ow rfl rfl rfl | (refine wkV_ow rfl rfl ?_) | (refine wkV_sc (congrArg (Value.int .i64) ?_)) | (refine wkV_sc (congrArg Value.bool ?_)) | exact wkV_ls rfl | ((refine wkV_cl ?_); conv => whnf) | ((refine wkV_tu ?_); conv => whnf) | ((refine wkV_ag ?_); conv => whnf) | (conv => whnf))))))
    all_goals rfl
  rintro k ⟨hk, hk2, hp⟩
  conv => whnf
  ((first | (with_reducible refine split_dec (fun h => ?_) (fun h => ?_)) | (with_reducible refine split_beq (fun h => ?_) (fun h => ?_)) | (with_reducible refine split_bne (fun h => ?_) (fun h => ?_)) | (with_reducible refine split_not (fun h => ?_) (fun h => ?_)) | (with_reducible refine split_beqS (fun h => ?_) (fun h => ?_)) | (with_reducible refine split_intro (fun h => ?_) (fun h => ?_))) <;> conv => whnf)
  · have hk3 : a.hard.base < k ∧ b.hard.base < k := by split at h <;> omega
    have hik : isI k := by unfold isI; unfold lastR at h1; omega
    ((try ((refine Exists.intro none ?_); (conv => whnf))); first | ((with_reducible refine call_by (c_aEntry a sa.len sa.base ha k hik) ?_); conv => whnf))
    ((try ((refine Exists.intro none ?_); (conv => whnf))); first | ((with_reducible refine call_by (c_aEntry b sb.len sb.base hb k hik) ?_); conv => whnf))
    have hc := he k (entE a k) (entE b k)
    ((try ((refine Exists.intro none ?_); (conv => whnf))); first | ((with_reducible refine call_by (hc) ?_); conv => whnf))
    ((first | (with_reducible refine split_dec (fun h => ?_) (fun h => ?_)) | (with_reducible refine split_beq (fun h => ?_) (fun h => ?_)) | (with_reducible refine split_bne (fun h => ?_) (fun h => ?_)) | (with_reducible refine split_not (fun h => ?_) (fun h => ?_)) | (with_reducible refine split_beqS (fun h => ?_) (fun h => ?_)) | (with_reducible refine split_intro (fun h => ?_) (fun h => ?_))) <;> conv => whnf)
    · refine exit_plain rfl ?_
      rw [dec_false]
      intro hh
      have := hh ha hb k hk3.1 hk3.2 (by omega) (by omega)
      rw [this] at h; cases h
    · refine ⟨k - 1, ⟨⟨by omega, .inr (by omega), ?_⟩, by omega⟩, ?_⟩
      · intro n n1 n2 n3 n4
        by_cases en : n = k
        · subst en; exact h
        · exact hp n n1 n2 (by omega) n4
      · conv => whnf
        (refine And.intro (And.intro (by with_unfolding_all rfl) (by intro q h; cases h)) ?_; refine And.intro ?_ (And.intro ?_ ?_) <;> (conv => whnf) <;> (repeat' (first | exact True.intro | (with_reducible exact rfl) | exact (rfl : List.replicate 0 PV.bad = []) | ((with_reducible refine And.intro ?_ ?_) <;> (first | (with_reducible exact wkV_same _ rfl) | exact wkV_pt rfl rfl | exact wkV_ow rfl rfl rfl | (refine wkV_ow rfl rfl ?_) | (refine wkV_sc (congrArg (Value.int .i64) ?_)) | (refine wkV_sc (congrArg Value.bool ?_)) | exact wkV_ls rfl | ((refine wkV_cl ?_); conv => whnf) | ((refine wkV_tu ?_); conv => whnf) | ((refine wkV_ag ?_); conv => whnf) | (conv => whnf))))))
        all_goals first | rfl | skip
        exact wrap_id (by omega) (by unfold lastR at h1; omega)
  · have hk3 : k ≤ a.hard.base ∨ k ≤ b.hard.base := by split at h <;> omega
    refine exit_plain rfl ?_
    rw [dec_true]
    intro _ _ n n1 n2 n3 n4
    exact hp n n1 n2 (by omega) (h3 n n3 n4)

def agreeE (a b : Rft) (k : Int) (x y : Ent) : Bool := decide (a.commit < k) || (decide (b.commit < k) || decide (x.nrm = y.nrm))
theorem c_Agrees11 (a b : Rft) (k : Int) (x y : Ent) : Ctr Try.prog 183 [iv k, .ag x.enc, .ag y.enc, .ep a.enc, .ep b.enc] (bv (agreeE a b k x y)) [] := by
  refine spec_of_body mixed Try.func183 rfl (by kernel_rfl) (by kernel_rfl) ?_; conv => whnf
  repeat' (first | ((first | (with_reducible refine split_dec (fun h => ?_) (fun h => ?_)) | (with_reducible refine split_beq (fun h => ?_) (fun h => ?_)) | (with_reducible refine split_bne (fun h => ?_) (fun h => ?_)) | (with_reducible refine split_not (fun h => ?_) (fun h => ?_)) | (with_reducible refine split_beqS (fun h => ?_) (fun h => ?_)) | (with_reducible refine split_intro (fun h => ?_) (fun h => ?_))) <;> conv => whnf) | ((try ((refine Exists.intro none ?_); (conv => whnf))); first | ((with_reducible refine call_by (c_same x y) ?_); conv => whnf)))
  all_goals (refine exit_plain rfl ?_)
  · simp [agreeE, h]
  · simp [agreeE, h]
  · have e1 : decide (a.commit < k) = false := decide_eq_false (by omega)
    have e2 : decide (b.commit < k) = false := decide_eq_false (by omega)
    unfold agreeE; rw [e1, e2]; rfl
noncomputable def agreeF (a b : Rft) : Bool := dec (bothAll (agreeE a b) a b)
theorem c_Agrees1 (a b : Rft) (sa : a.small) (sb : b.small) : Ctr Try.prog 182 [.ag a.enc, .ag b.enc] (bv (agreeF a b)) [] := by
  refine spec_of_body mixed Try.func182 rfl (by kernel_rfl) (by kernel_rfl) ?_; conv => whnf
  ((try ((refine Exists.intro none ?_); (conv => whnf))); first | ((with_reducible refine call_by (c_both a b sa sb 183 a.enc b.enc (agreeE a b) (c_Agrees11 a b)) ?_); conv => whnf))
  exact exit_plain rfl rfl
theorem c_Agrees (l : List Rft) (hl : l.length ≤ maxLen) (hs : ∀ r ∈ l, r.small) : Ctr Try.prog 86 [.sl 40 (l.map Rft.enc)] (bv (dec (pairsP agreeF l))) [] := by
  refine spec_of_body mixed Try.func86 rfl (by kernel_rfl) (by kernel_rfl) ?_; conv => whnf
  ((try ((refine Exists.intro none ?_); (conv => whnf))); first | ((with_reducible refine call_by (c_pairs l hl 182 agreeF (fun a ha b hb => c_Agrees1 a b (hs a ha) (hs b hb))) ?_); conv => whnf))
  exact exit_plain rfl rfl

/-! Matches: the closure writes what it has captured. -/
theorem c_Matches11 (met : Bool) (k : Int) (x y : Ent) : CtrE Try.prog 179 [iv k, .ag x.enc, .ag y.enc, .pt 1000000 0] [(1000000, [bv met])] [] (bv (!(met || x.term == y.term) || decide (x.nrm = y.nrm))) [(1000000, [bv (met || x.term == y.term)])] [] := by
  refine spec_of_bodyE mixed Try.func179 rfl (by kernel_rfl) (by kernel_rfl) ?_; conv => whnf
  cases met
  · conv => whnf
    repeat' (first | ((first | (with_reducible refine split_dec (fun h => ?_) (fun h => ?_)) | (with_reducible refine split_beq (fun h => ?_) (fun h => ?_)) | (with_reducible refine split_bne (fun h => ?_) (fun h => ?_)) | (with_reducible refine split_not (fun h => ?_) (fun h => ?_)) | (with_reducible refine split_beqS (fun h => ?_) (fun h => ?_)) | (with_reducible refine split_intro (fun h => ?_) (fun h => ?_))) <;> conv => whnf) | ((try ((refine Exists.intro none ?_); (conv => whnf))); first | ((with_reducible refine call_by (c_same x y) ?_); conv => whnf)))
    all_goals (refine ExitE.mk ⟨[], [], ?_⟩; (conv => whnf); (refine And.intro (And.intro (by with_unfolding_all rfl) (by intro q h; cases h)) ?_; refine And.intro ?_ (And.intro ?_ ?_) <;> (conv => whnf) <;> (repeat' (first | exact True.intro | (with_reducible exact rfl) | exact (rfl : List.replicate 0 PV.bad = []) | ((with_reducible refine And.intro ?_ ?_) <;> (first | (with_reducible exact wkV_same _ rfl) | exact wkV_pt rfl rfl | exact wkV_ow rfl rfl rfl | (refine wkV_ow rfl rfl ?_) | (refine wkV_sc (congrArg (Value.int .i64) ?_)) | (refine wkV_sc (congrArg Value.bool ?_)) | exact wkV_ls rfl | ((refine wkV_cl ?_); conv => whnf) | ((refine wkV_tu ?_); conv => whnf) | ((refine wkV_ag ?_); conv => whnf) | (conv => whnf)))))))
    all_goals simp_all
  · conv => whnf
    repeat' (first | ((first | (with_reducible refine split_dec (fun h => ?_) (fun h => ?_)) | (with_reducible refine split_beq (fun h => ?_) (fun h => ?_)) | (with_reducible refine split_bne (fun h => ?_) (fun h => ?_)) | (with_reducible refine split_not (fun h => ?_) (fun h => ?_)) | (with_reducible refine split_beqS (fun h => ?_) (fun h => ?_)) | (with_reducible refine split_intro (fun h => ?_) (fun h => ?_))) <;> conv => whnf) | ((try ((refine Exists.intro none ?_); (conv => whnf))); first | ((with_reducible refine call_by (c_same x y) ?_); conv => whnf)))
    all_goals (refine ExitE.mk ⟨[], [], ?_⟩; (conv => whnf); (refine And.intro (And.intro (by with_unfolding_all rfl) (by intro q h; cases h)) ?_; refine And.intro ?_ (And.intro ?_ ?_) <;> (conv => whnf) <;> (repeat' (first | exact True.intro | (with_reducible exact rfl) | exact (rfl : List.replicate 0 PV.bad = []) | ((with_reducible refine And.intro ?_ ?_) <;> (first | (with_reducible exact wkV_same _ rfl) | exact wkV_pt rfl rfl | exact wkV_ow rfl rfl rfl | (refine wkV_ow rfl rfl ?_) | (refine wkV_sc (congrArg (Value.int .i64) ?_)) | (refine wkV_sc (congrArg Value.bool ?_)) | exact wkV_ls rfl | ((refine wkV_cl ?_); conv => whnf) | ((refine wkV_tu ?_); conv => whnf) | ((refine wkV_ag ?_); conv => whnf) | (conv => whnf)))))))
    all_goals simp_all

/-- One term at an index. -/
def oneT (a b : Rft) (k : Int) : Prop := (entE a k).term = (entE b k).term
def metP (a b : Rft) (hi k : Int) : Prop := ∃ n : Int, k < n ∧ n ≤ hi ∧ oneT a b n
def matchP (a b : Rft) : Prop := lkB a = true → lkB b = true → ∀ k : Int, a.hard.base < k → b.hard.base < k → k ≤ lastR a → k ≤ lastR b → (∃ n : Int, k ≤ n ∧ n ≤ lastR a ∧ n ≤ lastR b ∧ oneT a b n) → (entE a k).nrm = (entE b k).nrm

theorem met_step (a b : Rft) (hi k : Int) (h : k ≤ hi) : dec (metP a b hi (k - 1)) = (dec (metP a b hi k) || ((entE a k).term == (entE b k).term)) := by
  rw [Bool.eq_iff_iff, Bool.or_eq_true, dec_eq_true, dec_eq_true, beq_iff_eq]
  constructor
  · rintro ⟨n, h1, h2, h3⟩
    by_cases e : n = k
    · subst e; exact .inr h3
    · exact .inl ⟨n, by omega, h2, h3⟩
  · rintro (⟨n, h1, h2, h3⟩ | h3)
    · exact ⟨n, by omega, h2, h3⟩
    · exact ⟨k, by omega, h, h3⟩

set_option maxHeartbeats 1000000 in
theorem c_bothM (a b : Rft) (sa : a.small) (sb : b.small) : CtrE Try.prog 178 [.ag a.enc, .ag b.enc, .cl 179 [.pt 1000000 0]] [(1000000, [bv false])] [] (bv (dec (matchP a b))) [(1000000, [.bad])] [] := by
  refine spec_of_bodyE mixed Try.func178 rfl (by kernel_rfl) (by kernel_rfl) ?_; conv => whnf
  ((try ((refine Exists.intro none ?_); (conv => whnf))); first | ((with_reducible refine call_by (c_has a) ?_); conv => whnf))
  ((first | (with_reducible refine split_dec (fun h => ?_) (fun h => ?_)) | (with_reducible refine split_beq (fun h => ?_) (fun h => ?_)) | (with_reducible refine split_bne (fun h => ?_) (fun h => ?_)) | (with_reducible refine split_not (fun h => ?_) (fun h => ?_)) | (with_reducible refine split_beqS (fun h => ?_) (fun h => ?_)) | (with_reducible refine split_intro (fun h => ?_) (fun h => ?_))) <;> conv => whnf)
  · (refine ExitE.mk ⟨[], [], ?_⟩; (conv => whnf); (refine And.intro (And.intro (by with_unfolding_all rfl) (by intro q h; cases h)) ?_; refine And.intro ?_ (And.intro ?_ ?_) <;> (conv => whnf) <;> (repeat' (first | exact True.intro | (with_reducible exact rfl) | exact (rfl : List.replicate 0 PV.bad = []) | ((with_reducible refine And.intro ?_ ?_) <;> (first | (with_reducible exact wkV_same _ rfl) | exact wkV_pt rfl rfl | exact wkV_ow rfl rfl rfl | (refine wkV_ow rfl rfl ?_) | (refine wkV_sc (congrArg (Value.int .i64) ?_)) | (refine wkV_sc (congrArg Value.bool ?_)) | exact wkV_ls rfl | ((refine wkV_cl ?_); conv => whnf) | ((refine wkV_tu ?_); conv => whnf) | ((refine wkV_ag ?_); conv => whnf) | (conv => whnf)))))))
    rw [dec_true]; intro h1; rw [h] at h1; cases h1
  have ha := h
  ((try ((refine Exists.intro none ?_); (conv => whnf))); first | ((with_reducible refine call_by (c_has b) ?_); conv => whnf))
  ((first | (with_reducible refine split_dec (fun h => ?_) (fun h => ?_)) | (with_reducible refine split_beq (fun h => ?_) (fun h => ?_)) | (with_reducible refine split_bne (fun h => ?_) (fun h => ?_)) | (with_reducible refine split_not (fun h => ?_) (fun h => ?_)) | (with_reducible refine split_beqS (fun h => ?_) (fun h => ?_)) | (with_reducible refine split_intro (fun h => ?_) (fun h => ?_))) <;> conv => whnf)
  · (refine ExitE.mk ⟨[], [], ?_⟩; (conv => whnf); (refine And.intro (And.intro (by with_unfolding_all rfl) (by intro q h; cases h)) ?_; refine And.intro ?_ (And.intro ?_ ?_) <;> (conv => whnf) <;> (repeat' (first | exact True.intro | (with_reducible exact rfl) | exact (rfl : List.replicate 0 PV.bad = []) | ((with_reducible refine And.intro ?_ ?_) <;> (first | (with_reducible exact wkV_same _ rfl) | exact wkV_pt rfl rfl | exact wkV_ow rfl rfl rfl | (refine wkV_ow rfl rfl ?_) | (refine wkV_sc (congrArg (Value.int .i64) ?_)) | (refine wkV_sc (congrArg Value.bool ?_)) | exact wkV_ls rfl | ((refine wkV_cl ?_); conv => whnf) | ((refine wkV_tu ?_); conv => whnf) | ((refine wkV_ag ?_); conv => whnf) | (conv => whnf)))))))
    rw [dec_true]; intro _ h1; rw [h] at h1; cases h1
  have hb := h
  have ea := lastI_ok sa ha
  have eb := lastI_ok sb hb
  have ra := lkB_iff.1 ha
  have rb := lkB_iff.1 hb
  have la := sa.log
  have lb := sb.log
  have ca := c_Last a.hard sa.len
  have cb := c_Last b.hard sb.len
  rw [ea] at ca
  rw [eb] at cb
  ((try ((refine Exists.intro none ?_); (conv => whnf))); first | ((with_reducible refine call_by (ca) ?_); conv => whnf))
  ((try ((refine Exists.intro none ?_); (conv => whnf))); first | ((with_reducible refine call_by (cb) ?_); conv => whnf))
  generalize hhi : (if lastR b < lastR a then lastR b else lastR a) = hi
  have h1 : hi ≤ lastR a := by rw [← hhi]; split <;> omega
  have h2 : hi ≤ lastR b := by rw [← hhi]; split <;> omega
  have h3 : ∀ n, n ≤ lastR a → n ≤ lastR b → n ≤ hi := by intro n; rw [← hhi]; split <;> omega
  refine tri_forB mixed (by kernel_rfl) (fun k : Int => k ≤ hi ∧ (k = hi ∨ (a.hard.base ≤ k ∧ b.hard.base ≤ k)) ∧ ∀ n : Int, a.hard.base < n → b.hard.base < n → k < n → n ≤ hi → (∃ m : Int, n ≤ m ∧ m ≤ hi ∧ oneT a b m) → (entE a n).nrm = (entE b n).nrm) (fun k => [(11, iv k)]) (fun k => [(1000000, [bv (dec (metP a b hi k))]), (3, a.enc), (4, b.enc)]) [] (fun k => (k - max a.hard.base b.hard.base).toNat) hi ⟨Int.le_refl _, .inl rfl, fun n _ _ h4 h5 => by omega⟩ ?_ ?_
  · conv => whnf
    (refine And.intro (And.intro (by with_unfolding_all rfl) (by intro q h; cases h)) ?_; refine And.intro ?_ (And.intro ?_ ?_) <;> (conv => whnf) <;> (repeat' (first | exact True.intro | (with_reducible exact rfl) | exact (rfl : List.replicate 0 PV.bad = []) | ((with_reducible refine And.intro ?_ ?_) <;> (first | (with_reducible exact wkV_same _ rfl) | exact wkV_pt rfl rfl | exact wkV_ow rfl rfl rfl | (refine wkV_ow rfl rfl ?_) | (refine wkV_sc (congrArg (Value.int .i64) ?_)) | (refine wkV_sc (congrArg Value.bool ?_)) | exact wkV_ls rfl | ((refine wkV_cl ?_); conv => whnf) | ((refine wkV_tu ?_); conv => whnf) | ((refine wkV_ag ?_); conv => whnf) | (conv => whnf))))))
    all_goals first | rfl | skip
    rw [dec_false]
    rintro ⟨n, n1, n2, _⟩
    omega
  rintro k ⟨hk, hk2, hp⟩
  conv => whnf
  ((first | (with_reducible refine split_dec (fun h => ?_) (fun h => ?_)) | (with_reducible refine split_beq (fun h => ?_) (fun h => ?_)) | (with_reducible refine split_bne (fun h => ?_) (fun h => ?_)) | (with_reducible refine split_not (fun h => ?_) (fun h => ?_)) | (with_reducible refine split_beqS (fun h => ?_) (fun h => ?_)) | (with_reducible refine split_intro (fun h => ?_) (fun h => ?_))) <;> conv => whnf)
  · have hk3 : a.hard.base < k ∧ b.hard.base < k := by split at h <;> omega
    have hik : isI k := by unfold isI; unfold lastR at h1; omega
    have hms := met_step a b hi k hk
    ((try ((refine Exists.intro none ?_); (conv => whnf))); first | ((with_reducible refine call_by (c_aEntry a sa.len sa.base ha k hik) ?_); conv => whnf))
    ((try ((refine Exists.intro none ?_); (conv => whnf))); first | ((with_reducible refine call_by (c_aEntry b sb.len sb.base hb k hik) ?_); conv => whnf))
    ((refine Exists.intro (some ([(1000000, 1000000)], [], [])) ?_); (conv => whnf); first | ((with_reducible refine callE_by (c_Matches11 (dec (metP a b hi k)) k (entE a k) (entE b k)) ?_); conv => whnf))
    ((first | (with_reducible refine split_dec (fun h => ?_) (fun h => ?_)) | (with_reducible refine split_beq (fun h => ?_) (fun h => ?_)) | (with_reducible refine split_bne (fun h => ?_) (fun h => ?_)) | (with_reducible refine split_not (fun h => ?_) (fun h => ?_)) | (with_reducible refine split_beqS (fun h => ?_) (fun h => ?_)) | (with_reducible refine split_intro (fun h => ?_) (fun h => ?_))) <;> conv => whnf)
    · (refine ExitE.mk ⟨[], [], ?_⟩; (conv => whnf); (refine And.intro (And.intro (by with_unfolding_all rfl) (by intro q h; cases h)) ?_; refine And.intro ?_ (And.intro ?_ ?_) <;> (conv => whnf) <;> (repeat' (first | exact True.intro | (with_reducible exact rfl) | exact (rfl : List.replicate 0 PV.bad = []) | ((with_reducible refine And.intro ?_ ?_) <;> (first | (with_reducible exact wkV_same _ rfl) | exact wkV_pt rfl rfl | exact wkV_ow rfl rfl rfl | (refine wkV_ow rfl rfl ?_) | (refine wkV_sc (congrArg (Value.int .i64) ?_)) | (refine wkV_sc (congrArg Value.bool ?_)) | exact wkV_ls rfl | ((refine wkV_cl ?_); conv => whnf) | ((refine wkV_tu ?_); conv => whnf) | ((refine wkV_ag ?_); conv => whnf) | (conv => whnf)))))))
      rw [dec_false]
      intro hh
      rw [← hms] at h
      simp only [Bool.or_eq_false_iff, Bool.not_eq_false', decide_eq_false_iff_not, dec_eq_true] at h
      obtain ⟨⟨n, n1, n2, n3⟩, h⟩ := h
      exact h (hh ha hb k hk3.1 hk3.2 (by omega) (by omega) ⟨n, by omega, by omega, by omega, n3⟩)
    · refine ⟨k - 1, ⟨⟨by omega, .inr (by omega), ?_⟩, by omega⟩, ?_⟩
      · intro n n1 n2 n3 n4 n5
        by_cases en : n = k
        · subst en
          rw [← hms] at h
          simp only [Bool.or_eq_true, Bool.not_eq_true', decide_eq_true_eq, dec_eq_false] at h
          rcases h with h | h
          · exfalso
            obtain ⟨m, m1, m2, m3⟩ := n5
            exact h ⟨m, by omega, m2, m3⟩
          · exact h
        · exact hp n n1 n2 (by omega) n4 n5
      · conv => whnf
        (refine And.intro (And.intro (by with_unfolding_all rfl) (by intro q h; cases h)) ?_; refine And.intro ?_ (And.intro ?_ ?_) <;> (conv => whnf) <;> (repeat' (first | exact True.intro | (with_reducible exact rfl) | exact (rfl : List.replicate 0 PV.bad = []) | ((with_reducible refine And.intro ?_ ?_) <;> (first | (with_reducible exact wkV_same _ rfl) | exact wkV_pt rfl rfl | exact wkV_ow rfl rfl rfl | (refine wkV_ow rfl rfl ?_) | (refine wkV_sc (congrArg (Value.int .i64) ?_)) | (refine wkV_sc (congrArg Value.bool ?_)) | exact wkV_ls rfl | ((refine wkV_cl ?_); conv => whnf) | ((refine wkV_tu ?_); conv => whnf) | ((refine wkV_ag ?_); conv => whnf) | (conv => whnf))))))
        all_goals first | rfl | exact hms.symm | skip
        exact wrap_id (by omega) (by unfold lastR at h1; omega)
  · have hk3 : k ≤ a.hard.base ∨ k ≤ b.hard.base := by split at h <;> omega
    (refine ExitE.mk ⟨[], [], ?_⟩; (conv => whnf); (refine And.intro (And.intro (by with_unfolding_all rfl) (by intro q h; cases h)) ?_; refine And.intro ?_ (And.intro ?_ ?_) <;> (conv => whnf) <;> (repeat' (first | exact True.intro | (with_reducible exact rfl) | exact (rfl : List.replicate 0 PV.bad = []) | ((with_reducible refine And.intro ?_ ?_) <;> (first | (with_reducible exact wkV_same _ rfl) | exact wkV_pt rfl rfl | exact wkV_ow rfl rfl rfl | (refine wkV_ow rfl rfl ?_) | (refine wkV_sc (congrArg (Value.int .i64) ?_)) | (refine wkV_sc (congrArg Value.bool ?_)) | exact wkV_ls rfl | ((refine wkV_cl ?_); conv => whnf) | ((refine wkV_tu ?_); conv => whnf) | ((refine wkV_ag ?_); conv => whnf) | (conv => whnf)))))))
    rw [dec_true]
    rintro _ _ n n1 n2 n3 n4 ⟨m, m1, m2, m3, m4⟩
    exact hp n n1 n2 (by omega) (h3 n n3 n4) ⟨m, m1, h3 m m2 m3, m4⟩

noncomputable def matchF (a b : Rft) : Bool := dec (matchP a b)
theorem c_Matches1 (a b : Rft) (sa : a.small) (sb : b.small) : Ctr Try.prog 177 [.ag a.enc, .ag b.enc] (bv (matchF a b)) [] := by
  refine spec_of_body mixed Try.func177 rfl (by kernel_rfl) (by kernel_rfl) ?_; conv => whnf
  ((refine Exists.intro (some ([(1000000, 5)], [], [])) ?_); (conv => whnf); first | ((with_reducible refine callE_by (c_bothM a b sa sb) ?_); conv => whnf))
  exact exit_plain rfl rfl
theorem c_Matches (l : List Rft) (hl : l.length ≤ maxLen) (hs : ∀ r ∈ l, r.small) : Ctr Try.prog 84 [.sl 40 (l.map Rft.enc)] (bv (dec (pairsP matchF l))) [] := by
  refine spec_of_body mixed Try.func84 rfl (by kernel_rfl) (by kernel_rfl) ?_; conv => whnf
  ((try ((refine Exists.intro none ?_); (conv => whnf))); first | ((with_reducible refine call_by (c_pairs l hl 177 matchF (fun a ha b hb => c_Matches1 a b (hs a ha) (hs b hb))) ?_); conv => whnf))
  exact exit_plain rfl rfl
end Go.Proofs
