import Derived.Test.YtbhfokahocgndaaGreatC1
/- Contracts of functions: what is more than is played. -/
set_option linter.unusedSimpArgs false
set_option linter.unusedVariables false
namespace Go.Proofs
open Go.Pv
set_option maxRecDepth 100000

theorem row_at {α : Type} {f : α → List PV} {l : List α} {i : Nat} (h : i < l.length) : (l.map f)[((i : Nat) : Int).toNat]? = some (f (l[i]'h)) := by
  simp [h]

def heavyCmd (c : VCmd) : Bool := decide (2000 < (c.key.size : Int)) || (decide (2000 < (c.old.text.size : Int)) || decide (2000 < (c.val.text.size : Int)))

def heavyEs (l : List Ent) : Bool := decide (200 < (l.length : Int)) || l.any fun x => heavyCmd x.call.cmd

theorem w1 {i : Nat} (h : (i : Int) < 9223372036854775807) : IntKind.i64.wrap ((i : Int) + 1) = ((i + 1 : Nat) : Int) := by
  rw [wrap_id (by omega) (by omega)]; rfl

def heavyH (h : Hrd) : Bool := heavyEs h.log || decide (32768 < (h.snap.length : Int))
def heavyR (r : Rft) : Bool := heavyH r.hard || (decide (200 < (r.reads.length : Int)) || (decide (r.hard.base < 0) || decide (1099511627776 < r.hard.base)))
def heavyF (m : Mg) : Bool := heavyEs m.entries || decide (32768 < (m.snap.length : Int))
/-- The messages within. -/
noncomputable def Mg.inn (m : Mg) : List Mg := Classical.epsilon fun zs : List Mg => m.inner = zs.map Mg.enc ∧ ∀ z ∈ zs, z.ok
noncomputable def heavyM1 (m : Mg) : Bool := heavyF m || (decide (3 < (m.inn.length : Int)) || m.inn.any heavyF)
noncomputable def heavyM (m : Mg) : Bool := heavyF m || (decide (20 < (m.inn.length : Int)) || m.inn.any heavyM1)

end Go.Proofs

/- Contracts of functions: a log's last entry, newer logs, votes. -/
namespace Go.Proofs
open Go.Pv
set_option maxRecDepth 100000

def lastT (h : Hrd) : Int := match h.log.getLast? with
  | none => h.baseTerm
  | some x => x.term
def lastI (h : Hrd) : Int := if h.log.length = 0 then h.base else w64 (h.base + h.log.length)

theorem last_at {l : List Ent} (h : l.length ≠ 0) (hm : l.length ≤ maxLen) : 0 ≤ w64 ((l.length : Int) - 1) ∧ (l.map Ent.enc)[(w64 ((l.length : Int) - 1)).toNat]? = some (l.getLast (by intro e; rw [e] at h; exact h rfl)).enc := by
  have hm' : l.length ≤ 9223372036854775807 := Nat.le_trans hm (by decide)
  rw [show w64 ((l.length : Int) - 1) = ((l.length - 1 : Nat) : Int) from by rw [show w64 ((l.length : Int) - 1) = (l.length : Int) - 1 from wrap_id (by omega) (by omega)]; omega]
  refine ⟨by omega, ?_⟩
  rw [row_at (by omega), List.getLast_eq_getElem]

theorem lastT_some {h : Hrd} (hl : h.log ≠ []) : lastT h = (h.log.getLast hl).term := by
  unfold lastT; first | rw [List.getLast?_eq_some_getLast hl] | rw [List.getLast?_eq_getLast hl] | rw [List.getLast?_eq_getLast_of_ne_nil hl]

theorem c_Last (a : Hrd) (hm : a.log.length ≤ maxLen) : Ctr Tryz.prog 51 [.ag a.enc] (.tu [iv (lastI a), iv (lastT a)]) [] := by
  refine spec_of_body mixed Tryz.func51 rfl (by kernel_rfl) (by kernel_rfl) ?_; conv => whnf
  ((first | (with_reducible refine split_dec (fun h => ?_) (fun h => ?_)) | (with_reducible refine split_beq (fun h => ?_) (fun h => ?_)) | (with_reducible refine split_bne (fun h => ?_) (fun h => ?_)) | (with_reducible refine split_not (fun h => ?_) (fun h => ?_)) | (with_reducible refine split_beqS (fun h => ?_) (fun h => ?_)) | (with_reducible refine split_intro (fun h => ?_) (fun h => ?_))) <;> conv => whnf)
  · have h0 : a.log = [] := by
      simp only [List.length_map] at *
      exact List.eq_nil_of_length_eq_zero (by omega)
    refine exit_plain rfl ?_
    simp [lastI, lastT, h0]
  · simp only [List.length_map] at *
    obtain ⟨h1, h2⟩ := last_at (l := a.log) (by omega) hm
    refine ⟨h1, _, h2, ?_⟩
    conv => whnf
    refine exit_plain rfl ?_
    have hne : a.log ≠ [] := fun e => by simp_all
    rw [lastT_some hne, lastI, if_neg (by omega)]

theorem c_rLast (a : Hrd) (hm : a.log.length ≤ maxLen) : Ctr Tryz.prog 34 [.ag a.enc] (.tu [iv (lastI a), iv (lastT a)]) [] := by
  refine spec_of_body mixed Tryz.func34 rfl (by kernel_rfl) (by kernel_rfl) ?_; conv => whnf
  ((first | (with_reducible refine split_dec (fun h => ?_) (fun h => ?_)) | (with_reducible refine split_beq (fun h => ?_) (fun h => ?_)) | (with_reducible refine split_bne (fun h => ?_) (fun h => ?_)) | (with_reducible refine split_not (fun h => ?_) (fun h => ?_)) | (with_reducible refine split_beqS (fun h => ?_) (fun h => ?_)) | (with_reducible refine split_intro (fun h => ?_) (fun h => ?_))) <;> conv => whnf)
  · have h0 : a.log = [] := by
      simp only [List.length_map] at *
      exact List.eq_nil_of_length_eq_zero (by omega)
    refine exit_plain rfl ?_
    simp [lastI, lastT, h0]
  · simp only [List.length_map] at *
    obtain ⟨h1, h2⟩ := last_at (l := a.log) (by omega) hm
    refine ⟨h1, _, h2, ?_⟩
    conv => whnf
    refine exit_plain rfl ?_
    have hne : a.log ≠ [] := fun e => by simp_all
    rw [lastT_some hne, lastI, if_neg (by omega)]

def newer (h : Hrd) (i t : Int) : Bool := decide (lastT h < t) || (t == lastT h && decide (lastI h ≤ i))
theorem c_Newer (h : Hrd) (hm : h.log.length ≤ maxLen) (i t : Int) : Ctr Tryz.prog 145 [.ag h.enc, iv i, iv t] (bv (newer h i t)) [] := by
  refine spec_of_body mixed Tryz.func145 rfl (by kernel_rfl) (by kernel_rfl) ?_; conv => whnf
  ((try ((refine Exists.intro none ?_); (conv => whnf))); first | ((with_reducible refine call_by (c_Last h hm) ?_); conv => whnf))
  repeat' ((first | (with_reducible refine split_dec (fun h => ?_) (fun h => ?_)) | (with_reducible refine split_beq (fun h => ?_) (fun h => ?_)) | (with_reducible refine split_bne (fun h => ?_) (fun h => ?_)) | (with_reducible refine split_not (fun h => ?_) (fun h => ?_)) | (with_reducible refine split_beqS (fun h => ?_) (fun h => ?_)) | (with_reducible refine split_intro (fun h => ?_) (fun h => ?_))) <;> conv => whnf)
  all_goals (refine exit_plain rfl ?_; simp [newer, *])
def asked (r : Rft) (m : Mg) : Bool := decide (r.hard.term < m.term) && (r.role != 3 && (decide (6 ≤ r.quiet) && newer r.hard m.index m.logTerm))
theorem c_Asked (r : Rft) (hm : r.hard.log.length ≤ maxLen) (m : Mg) : Ctr Tryz.prog 144 [.ag r.enc, .ag m.enc] (bv (asked r m)) [] := by
  refine spec_of_body mixed Tryz.func144 rfl (by kernel_rfl) (by kernel_rfl) ?_; conv => whnf
  repeat' (first | ((try ((refine Exists.intro none ?_); (conv => whnf))); first | ((with_reducible refine call_by (c_Newer r.hard hm _ _) ?_); conv => whnf)) | ((first | (with_reducible refine split_dec (fun h => ?_) (fun h => ?_)) | (with_reducible refine split_beq (fun h => ?_) (fun h => ?_)) | (with_reducible refine split_bne (fun h => ?_) (fun h => ?_)) | (with_reducible refine split_not (fun h => ?_) (fun h => ?_)) | (with_reducible refine split_beqS (fun h => ?_) (fun h => ?_)) | (with_reducible refine split_intro (fun h => ?_) (fun h => ?_))) <;> conv => whnf))
  all_goals (refine exit_plain rfl ?_; simp [asked, *])
def voted (r : Rft) (m : Mg) : Bool := m.term == r.hard.term && ((r.hard.vote == -1 || r.hard.vote == m.frm) && newer r.hard m.index m.logTerm)
theorem c_Voted (r : Rft) (hm : r.hard.log.length ≤ maxLen) (m : Mg) : Ctr Tryz.prog 118 [.ag r.enc, .ag m.enc] (bv (voted r m)) [] := by
  refine spec_of_body mixed Tryz.func118 rfl (by kernel_rfl) (by kernel_rfl) ?_; conv => whnf
  repeat' (first | ((try ((refine Exists.intro none ?_); (conv => whnf))); first | ((with_reducible refine call_by (c_Newer r.hard hm _ _) ?_); conv => whnf)) | ((first | (with_reducible refine split_dec (fun h => ?_) (fun h => ?_)) | (with_reducible refine split_beq (fun h => ?_) (fun h => ?_)) | (with_reducible refine split_bne (fun h => ?_) (fun h => ?_)) | (with_reducible refine split_not (fun h => ?_) (fun h => ?_)) | (with_reducible refine split_beqS (fun h => ?_) (fun h => ?_)) | (with_reducible refine split_intro (fun h => ?_) (fun h => ?_))) <;> conv => whnf))
  all_goals (refine exit_plain rfl ?_; simp [voted, *])
end Go.Proofs

/- Contracts of functions: the configuration in force. -/
namespace Go.Proofs
open Go.Pv
set_option maxRecDepth 100000

/-- The index of the k-th entry, as the code tells it. -/
abbrev idx (h : Hrd) (k : Nat) : Int := w64 (w64 (h.base + k) + 1)

/-- The configuration in force among the first i entries. -/
def fwd (h : Hrd) (upto : Int) : Nat → Conf × Int
  | 0 => (h.baseConf, h.base)
  | i + 1 => match h.log[i]? with
    | some x => if idx h i ≤ upto ∧ x.kind = 2 then (x.conf, idx h i) else fwd h upto i
    | none => fwd h upto i
def force (h : Hrd) (upto : Int) : Conf × Int := fwd h upto h.log.length
abbrev civ (x : Conf × Int) : PV := .tu [.ag x.1.enc, iv x.2]

theorem fwd_hit {h : Hrd} {upto : Int} {i : Nat} (hi : i < h.log.length) (h1 : idx h i ≤ upto) (h2 : (h.log[i]'hi).kind = 2) : fwd h upto (i + 1) = ((h.log[i]'hi).conf, idx h i) := by
  simp [fwd, hi, h1, h2]
theorem fwd_miss {h : Hrd} {upto : Int} {i : Nat} (hi : i < h.log.length) (h1 : ¬ (idx h i ≤ upto ∧ (h.log[i]'hi).kind = 2)) : fwd h upto (i + 1) = fwd h upto i := by
  simp only [fwd, List.getElem?_eq_getElem hi, h1, if_false]

theorem c_lConf (a : Hrd) (hm : a.log.length ≤ maxLen) (upto : Int) : Ctr Tryz.prog 93 [.ag a.enc, iv upto] (civ (force a upto)) [] := by
  have hm' : a.log.length ≤ 9223372036854775807 := Nat.le_trans hm (by decide)
  refine spec_of_body mixed Tryz.func93 rfl (by kernel_rfl) (by kernel_rfl) ?_; conv => whnf
  refine tri_for0 mixed (by kernel_rfl) (fun i : Nat => i ≤ a.log.length ∧ fwd a upto i = force a upto) (fun i => [(6, iv ((i : Int) - 1))]) [] (fun i => i) a.log.length ⟨Nat.le_refl _, rfl⟩ ?_ ?_
  · conv => whnf
    (refine And.intro (And.intro (by with_unfolding_all rfl) (by intro q h; cases h)) ?_; refine And.intro ?_ (And.intro ?_ ?_) <;> (conv => whnf) <;> (repeat' (first | exact True.intro | (with_reducible exact rfl) | exact (rfl : List.replicate 0 PV.bad = []) | ((with_reducible refine And.intro ?_ ?_) <;> (first | (with_reducible exact wkV_same _ rfl) | exact wkV_pt rfl rfl | exact wkV_ow rfl rfl rfl | (refine wkV_ow rfl rfl ?_) | (refine wkV_sc (congrArg (Value.int .i64) ?_)) | (refine wkV_sc (congrArg Value.bool ?_)) | exact wkV_ls rfl | ((refine wkV_cl ?_); conv => whnf) | ((refine wkV_tu ?_); conv => whnf) | ((refine wkV_ag ?_); conv => whnf) | (conv => whnf))))))
    simp only [List.length_map]; exact wrap_id (by omega) (by omega)
  · rintro i ⟨hi, hf⟩
    conv => whnf
    ((first | (with_reducible refine split_dec (fun h => ?_) (fun h => ?_)) | (with_reducible refine split_beq (fun h => ?_) (fun h => ?_)) | (with_reducible refine split_bne (fun h => ?_) (fun h => ?_)) | (with_reducible refine split_not (fun h => ?_) (fun h => ?_)) | (with_reducible refine split_beqS (fun h => ?_) (fun h => ?_)) | (with_reducible refine split_intro (fun h => ?_) (fun h => ?_))) <;> conv => whnf)
    · obtain ⟨k, rfl⟩ : ∃ k, i = k + 1 := ⟨i - 1, by omega⟩
      have ek : (((k + 1 : Nat) : Int) - 1) = (k : Int) := by omega
      rw [ek]
      have hlt : k < a.log.length := by omega
      refine ⟨by omega, _, row_at hlt, ?_⟩
      conv => whnf
      ((first | (with_reducible refine split_dec (fun h => ?_) (fun h => ?_)) | (with_reducible refine split_beq (fun h => ?_) (fun h => ?_)) | (with_reducible refine split_bne (fun h => ?_) (fun h => ?_)) | (with_reducible refine split_not (fun h => ?_) (fun h => ?_)) | (with_reducible refine split_beqS (fun h => ?_) (fun h => ?_)) | (with_reducible refine split_intro (fun h => ?_) (fun h => ?_))) <;> conv => whnf)
      · rename_i h0
        ((first | (with_reducible refine split_dec (fun h => ?_) (fun h => ?_)) | (with_reducible refine split_beq (fun h => ?_) (fun h => ?_)) | (with_reducible refine split_bne (fun h => ?_) (fun h => ?_)) | (with_reducible refine split_not (fun h => ?_) (fun h => ?_)) | (with_reducible refine split_beqS (fun h => ?_) (fun h => ?_)) | (with_reducible refine split_intro (fun h => ?_) (fun h => ?_))) <;> conv => whnf)
        · refine ⟨by omega, _, row_at hlt, ?_⟩
          conv => whnf
          rename_i h1
          refine exit_plain rfl ?_
          rw [← hf, fwd_hit hlt h h1]
        · rename_i h1
          refine ⟨k, ⟨⟨by omega, ?_⟩, by omega⟩, ?_⟩
          · rw [← hf, fwd_miss hlt (fun x => h x.1)]
          · conv => whnf
            (refine And.intro (And.intro (by with_unfolding_all rfl) (by intro q h; cases h)) ?_; refine And.intro ?_ (And.intro ?_ ?_) <;> (conv => whnf) <;> (repeat' (first | exact True.intro | (with_reducible exact rfl) | exact (rfl : List.replicate 0 PV.bad = []) | ((with_reducible refine And.intro ?_ ?_) <;> (first | (with_reducible exact wkV_same _ rfl) | exact wkV_pt rfl rfl | exact wkV_ow rfl rfl rfl | (refine wkV_ow rfl rfl ?_) | (refine wkV_sc (congrArg (Value.int .i64) ?_)) | (refine wkV_sc (congrArg Value.bool ?_)) | exact wkV_ls rfl | ((refine wkV_cl ?_); conv => whnf) | ((refine wkV_tu ?_); conv => whnf) | ((refine wkV_ag ?_); conv => whnf) | (conv => whnf))))))
            exact wrap_id (by omega) (by omega)
      · rename_i h0
        refine ⟨k, ⟨⟨by omega, ?_⟩, by omega⟩, ?_⟩
        · rw [← hf, fwd_miss hlt (fun x => h x.2)]
        · conv => whnf
          (refine And.intro (And.intro (by with_unfolding_all rfl) (by intro q h; cases h)) ?_; refine And.intro ?_ (And.intro ?_ ?_) <;> (conv => whnf) <;> (repeat' (first | exact True.intro | (with_reducible exact rfl) | exact (rfl : List.replicate 0 PV.bad = []) | ((with_reducible refine And.intro ?_ ?_) <;> (first | (with_reducible exact wkV_same _ rfl) | exact wkV_pt rfl rfl | exact wkV_ow rfl rfl rfl | (refine wkV_ow rfl rfl ?_) | (refine wkV_sc (congrArg (Value.int .i64) ?_)) | (refine wkV_sc (congrArg Value.bool ?_)) | exact wkV_ls rfl | ((refine wkV_cl ?_); conv => whnf) | ((refine wkV_tu ?_); conv => whnf) | ((refine wkV_ag ?_); conv => whnf) | (conv => whnf))))))
          exact wrap_id (by omega) (by omega)
    · have : i = 0 := by omega
      subst this
      refine exit_plain rfl ?_
      rw [← hf]; rfl

theorem c_vConf (r : Rft) (hm : r.hard.log.length ≤ maxLen) : Ctr Tryz.prog 48 [.ag r.enc] (.ag (force r.hard (lastI r.hard)).1.enc) [] := by
  refine spec_of_body mixed Tryz.func48 rfl (by kernel_rfl) (by kernel_rfl) ?_; conv => whnf
  ((try ((refine Exists.intro none ?_); (conv => whnf))); first | ((with_reducible refine call_by (c_Last r.hard hm) ?_); conv => whnf))
  ((try ((refine Exists.intro none ?_); (conv => whnf))); first | ((with_reducible refine call_by (c_lConf r.hard hm _) ?_); conv => whnf))
  exact exit_plain rfl rfl
abbrev inForce (r : Rft) : Conf := (force r.hard (lastI r.hard)).1

theorem c_Wins (r : Rft) (hm : r.hard.log.length ≤ maxLen) : Ctr Tryz.prog 116 [.ag r.enc] (bv (quorum (inForce r) r.votes)) [] := by
  refine spec_of_body mixed Tryz.func116 rfl (by kernel_rfl) (by kernel_rfl) ?_; conv => whnf
  ((try ((refine Exists.intro none ?_); (conv => whnf))); first | ((with_reducible refine call_by (c_vConf r hm) ?_); conv => whnf))
  ((try ((refine Exists.intro none ?_); (conv => whnf))); first | ((with_reducible refine call_by (c_Quorum (inForce r) _) ?_); conv => whnf))
  exact exit_plain rfl rfl
theorem c_Voter (r : Rft) (hm : r.hard.log.length ≤ maxLen) : Ctr Tryz.prog 124 [.ag r.enc] (bv (bitB (bor (inForce r).full (inForce r).wit) r.id)) [] := by
  refine spec_of_body mixed Tryz.func124 rfl (by kernel_rfl) (by kernel_rfl) ?_; conv => whnf
  ((try ((refine Exists.intro none ?_); (conv => whnf))); first | ((with_reducible refine call_by (c_vConf r hm) ?_); conv => whnf))
  ((try ((refine Exists.intro none ?_); (conv => whnf))); first | ((with_reducible refine call_by (c_Voters (inForce r)) ?_); conv => whnf))
  ((try ((refine Exists.intro none ?_); (conv => whnf))); first | ((with_reducible refine call_by (c_bit _ _) ?_); conv => whnf))
  exact exit_plain rfl rfl
end Go.Proofs

/- Contracts of functions: entries, terms, what fits, what is committed. -/
namespace Go.Proofs
open Go.Pv
set_option maxRecDepth 100000

abbrev bz : ByteArray := ⟨#[]⟩
abbrev vz : VVal := ⟨0, 0, bz⟩
abbrev kz : VCall := ⟨0, 0, ⟨0, bz, vz, vz⟩⟩
abbrev ez : Ent := ⟨0, 0, kz, cz⟩

/-- The entry of an index. -/
def entAt (h : Hrd) (i : Int) : Option Ent := if h.base < i ∧ i - h.base ≤ h.log.length then h.log[(i - h.base - 1).toNat]? else none
theorem entAt_none {h : Hrd} {i : Int} (hh : ¬ (h.base < i ∧ i - h.base ≤ h.log.length)) : entAt h i = none := by
  unfold entAt; rw [if_neg hh]
theorem entAt_some {h : Hrd} {i : Int} (h1 : h.base < i) (h2 : i - h.base ≤ h.log.length) : entAt h i = some (h.log[(i - h.base - 1).toNat]'(by omega)) := by
  unfold entAt; rw [if_pos ⟨h1, h2⟩, List.getElem?_eq_getElem]

theorem row_at' {α : Type} {f : α → List PV} {l : List α} {n : Int} {k : Nat} (hn : n = k) (h : k < l.length) : 0 ≤ n ∧ (l.map f)[n.toNat]? = some (f (l[k]'h)) := by
  subst hn; exact ⟨by omega, row_at h⟩

theorem c_Entry (a : Hrd) (hm : a.log.length ≤ maxLen) (hb : isI a.base) (i : Int) (hi : isI i) : Ctr Tryz.prog 142 [.ag a.enc, iv i] (.tu [.ag ((entAt a i).getD ez).enc, bv (entAt a i).isSome]) [] := by
  have hm' : a.log.length ≤ 9223372036854775807 := Nat.le_trans hm (by decide)
  unfold isI at hb hi
  refine spec_of_body mixed Tryz.func142 rfl (by kernel_rfl) (by kernel_rfl) ?_; conv => whnf
  ((first | (with_reducible refine split_dec (fun h => ?_) (fun h => ?_)) | (with_reducible refine split_beq (fun h => ?_) (fun h => ?_)) | (with_reducible refine split_bne (fun h => ?_) (fun h => ?_)) | (with_reducible refine split_not (fun h => ?_) (fun h => ?_)) | (with_reducible refine split_beqS (fun h => ?_) (fun h => ?_)) | (with_reducible refine split_intro (fun h => ?_) (fun h => ?_))) <;> conv => whnf)
  · refine exit_plain rfl ?_
    rw [entAt_none (by omega)]; rfl
  have h0 := h
  ((first | (with_reducible refine split_dec (fun h => ?_) (fun h => ?_)) | (with_reducible refine split_beq (fun h => ?_) (fun h => ?_)) | (with_reducible refine split_bne (fun h => ?_) (fun h => ?_)) | (with_reducible refine split_not (fun h => ?_) (fun h => ?_)) | (with_reducible refine split_beqS (fun h => ?_) (fun h => ?_)) | (with_reducible refine split_intro (fun h => ?_) (fun h => ?_))) <;> conv => whnf)
  · refine exit_plain rfl ?_
    simp only [List.length_map] at h
    rw [entAt_none]
    · rfl
    · rw [wrap64] at h; split at h <;> omega
  have h1 := h
  ((first | (with_reducible refine split_dec (fun h => ?_) (fun h => ?_)) | (with_reducible refine split_beq (fun h => ?_) (fun h => ?_)) | (with_reducible refine split_bne (fun h => ?_) (fun h => ?_)) | (with_reducible refine split_not (fun h => ?_) (fun h => ?_)) | (with_reducible refine split_beqS (fun h => ?_) (fun h => ?_)) | (with_reducible refine split_intro (fun h => ?_) (fun h => ?_))) <;> conv => whnf)
  · refine exit_plain rfl ?_
    simp only [List.length_map] at h h1
    rw [entAt_none]
    · rfl
    · rw [wrap64] at h; split at h <;> omega
  · simp only [List.length_map] at h h1
    have e : IntKind.i64.wrap (i - a.base) = i - a.base := by
      rw [wrap64] at *; split at h <;> split <;> omega
    rw [e] at h h1
    have e2 : IntKind.i64.wrap (IntKind.i64.wrap (i - a.base) - 1) = ((i - a.base - 1).toNat : Int) := by
      rw [e, wrap_id (by omega) (by omega)]; omega
    obtain ⟨r1, r2⟩ := row_at' (f := Ent.enc) (l := a.log) e2 (by omega)
    refine ⟨r1, _, r2, ?_⟩
    conv => whnf
    refine exit_plain rfl ?_
    rw [entAt_some (by omega) (by omega)]; rfl

def termAt (h : Hrd) (i : Int) : Int := if i = h.base then h.baseTerm else match entAt h i with
  | some x => x.term
  | none => -1

theorem c_Term (a : Hrd) (hm : a.log.length ≤ maxLen) (hb : isI a.base) (i : Int) (hi : isI i) : Ctr Tryz.prog 108 [.ag a.enc, iv i] (iv (termAt a i)) [] := by
  refine spec_of_body mixed Tryz.func108 rfl (by kernel_rfl) (by kernel_rfl) ?_; conv => whnf
  ((first | (with_reducible refine split_dec (fun h => ?_) (fun h => ?_)) | (with_reducible refine split_beq (fun h => ?_) (fun h => ?_)) | (with_reducible refine split_bne (fun h => ?_) (fun h => ?_)) | (with_reducible refine split_not (fun h => ?_) (fun h => ?_)) | (with_reducible refine split_beqS (fun h => ?_) (fun h => ?_)) | (with_reducible refine split_intro (fun h => ?_) (fun h => ?_))) <;> conv => whnf)
  · exact exit_plain rfl (by rw [termAt, if_pos h])
  have h0 := h
  ((try ((refine Exists.intro none ?_); (conv => whnf))); first | ((with_reducible refine call_by (c_Entry a hm hb i hi) ?_); conv => whnf))
  cases he : entAt a i with
  | none =>
    conv => whnf
    exact exit_plain rfl (by rw [termAt, if_neg h0, he])
  | some x =>
    conv => whnf
    exact exit_plain rfl (by rw [termAt, if_neg h0, he]; rfl)

def fits (h : Hrd) (i t : Int) : Bool := t != -1 && termAt h i == t
theorem c_Fits (a : Hrd) (hm : a.log.length ≤ maxLen) (hb : isI a.base) (i : Int) (hi : isI i) (t : Int) : Ctr Tryz.prog 103 [.ag a.enc, iv i, iv t] (bv (fits a i t)) [] := by
  refine spec_of_body mixed Tryz.func103 rfl (by kernel_rfl) (by kernel_rfl) ?_; conv => whnf
  ((first | (with_reducible refine split_dec (fun h => ?_) (fun h => ?_)) | (with_reducible refine split_beq (fun h => ?_) (fun h => ?_)) | (with_reducible refine split_bne (fun h => ?_) (fun h => ?_)) | (with_reducible refine split_not (fun h => ?_) (fun h => ?_)) | (with_reducible refine split_beqS (fun h => ?_) (fun h => ?_)) | (with_reducible refine split_intro (fun h => ?_) (fun h => ?_))) <;> conv => whnf)
  · ((try ((refine Exists.intro none ?_); (conv => whnf))); first | ((with_reducible refine call_by (c_Term a hm hb i hi) ?_); conv => whnf))
    exact exit_plain rfl (by simp [fits, h])
  · exact exit_plain rfl (by simp [fits, h])

/-- The reference's: where no sum wraps. -/
theorem c_rAt (a : Hrd) (hm : a.log.length ≤ maxLen) (hb : 0 ≤ a.base) (hs : a.base + a.log.length < 9223372036854775808) (i : Int) (hi : isI i) : Ctr Tryz.prog 109 [.ag a.enc, iv i] (.tu [.ag ((entAt a i).getD ez).enc, bv (entAt a i).isSome]) [] := by
  have hm' : a.log.length ≤ 9223372036854775807 := Nat.le_trans hm (by decide)
  unfold isI at hi
  refine spec_of_body mixed Tryz.func109 rfl (by kernel_rfl) (by kernel_rfl) ?_; conv => whnf
  ((first | (with_reducible refine split_dec (fun h => ?_) (fun h => ?_)) | (with_reducible refine split_beq (fun h => ?_) (fun h => ?_)) | (with_reducible refine split_bne (fun h => ?_) (fun h => ?_)) | (with_reducible refine split_not (fun h => ?_) (fun h => ?_)) | (with_reducible refine split_beqS (fun h => ?_) (fun h => ?_)) | (with_reducible refine split_intro (fun h => ?_) (fun h => ?_))) <;> conv => whnf)
  · refine exit_plain rfl ?_
    rw [entAt_none (by omega)]; rfl
  have h0 := h
  ((first | (with_reducible refine split_dec (fun h => ?_) (fun h => ?_)) | (with_reducible refine split_beq (fun h => ?_) (fun h => ?_)) | (with_reducible refine split_bne (fun h => ?_) (fun h => ?_)) | (with_reducible refine split_not (fun h => ?_) (fun h => ?_)) | (with_reducible refine split_beqS (fun h => ?_) (fun h => ?_)) | (with_reducible refine split_intro (fun h => ?_) (fun h => ?_))) <;> conv => whnf)
  · refine exit_plain rfl ?_
    simp only [List.length_map] at h
    rw [wrap_id (by omega) (by omega)] at h
    rw [entAt_none (by omega)]; rfl
  · simp only [List.length_map] at h
    rw [wrap_id (by omega) (by omega)] at h
    have e2 : IntKind.i64.wrap (IntKind.i64.wrap (i - a.base) - 1) = ((i - a.base - 1).toNat : Int) := by
      rw [wrap_id (n := i - a.base) (by omega) (by omega), wrap_id (by omega) (by omega)]; omega
    obtain ⟨r1, r2⟩ := row_at' (f := Ent.enc) (l := a.log) e2 (by omega)
    refine ⟨r1, _, r2, ?_⟩
    conv => whnf
    refine exit_plain rfl ?_
    rw [entAt_some (by omega) (by omega)]; rfl

theorem c_rTerm (a : Hrd) (hm : a.log.length ≤ maxLen) (hb : 0 ≤ a.base) (hs : a.base + a.log.length < 9223372036854775808) (i : Int) (hi : isI i) : Ctr Tryz.prog 66 [.ag a.enc, iv i] (iv (termAt a i)) [] := by
  refine spec_of_body mixed Tryz.func66 rfl (by kernel_rfl) (by kernel_rfl) ?_; conv => whnf
  ((first | (with_reducible refine split_dec (fun h => ?_) (fun h => ?_)) | (with_reducible refine split_beq (fun h => ?_) (fun h => ?_)) | (with_reducible refine split_bne (fun h => ?_) (fun h => ?_)) | (with_reducible refine split_not (fun h => ?_) (fun h => ?_)) | (with_reducible refine split_beqS (fun h => ?_) (fun h => ?_)) | (with_reducible refine split_intro (fun h => ?_) (fun h => ?_))) <;> conv => whnf)
  · exact exit_plain rfl (by rw [termAt, if_pos h])
  have h0 := h
  ((try ((refine Exists.intro none ?_); (conv => whnf))); first | ((with_reducible refine call_by (c_rAt a hm hb hs i hi) ?_); conv => whnf))
  cases he : entAt a i with
  | none =>
    conv => whnf
    exact exit_plain rfl (by rw [termAt, if_neg h0, he])
  | some x =>
    conv => whnf
    exact exit_plain rfl (by rw [termAt, if_neg h0, he]; rfl)
end Go.Proofs
