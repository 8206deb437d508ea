import Derived.Test.YtbhfokahocgndaaGreatC17
import Derived.Test.YtbhfokahocgndaaGreatC13
import Derived.Test.YtbhfokahocgndaaGreatC6
import Derived.Test.YtbhfokahocgndaaGreatPvN
/- Contracts of functions: entries compared: the same, all NaN being one. -/
set_option linter.unusedSimpArgs false
set_option linter.unusedVariables false
namespace Go.Proofs
open Go.Pv
set_option maxRecDepth 100000

theorem bl_loop (bs : ByteArray) : ∀ n i r, bs.size - i = n → ByteArray.toList.loop bs i r = r.reverse ++ bs.data.toList.drop i
  | 0, i, r, h => by
    rw [ByteArray.toList.loop, if_neg (by omega), List.drop_eq_nil_of_le (by simp only [Array.length_toList]; have : bs.data.size = bs.size := rfl; omega), List.append_nil]
  | n + 1, i, r, h => by
    have hlt : i < bs.size := by omega
    have hlt' : i < bs.data.toList.length := by simpa using hlt
    rw [ByteArray.toList.loop, if_pos hlt, bl_loop bs n (i + 1) _ (by omega), List.drop_eq_getElem_cons hlt']
    have : bs.get! i = bs.data.toList[i] := by
      show bs.data[i]! = _
      rw [getElem!_pos bs.data i hlt]; simp
    simp [this]
theorem bl_eq (bs : ByteArray) : bs.toList = bs.data.toList := by
  show ByteArray.toList.loop bs 0 [] = _
  rw [bl_loop bs _ 0 [] rfl]; simp
theorem bl_inj {a b : ByteArray} : a.toList = b.toList ↔ a = b := by
  constructor
  · intro h
    rw [bl_eq, bl_eq] at h
    exact ByteArray.ext (Array.ext' h)
  · intro h; rw [h]

theorem bl_beq (a b : ByteArray) : (a.toList == b.toList) = decide (a = b) := by
  rw [Bool.eq_iff_iff, beq_iff_eq, decide_eq_true_eq, bl_inj]

/-- A NaN. -/
def fnan (x : Nat) : Bool := FloatKind.f64.format.order x x != some .eq
abbrev theNaN : Nat := 9221120237041090561
theorem fnan_the : fnan theNaN = true := by decide +kernel
def canonF (x : Nat) : Nat := if fnan x then theNaN else x
theorem canonF_eq {a b : Nat} : canonF a = canonF b ↔ (fnan a = true ∧ fnan b = true) ∨ a = b := by
  unfold canonF
  cases ha : fnan a <;> cases hb : fnan b <;> simp
  · constructor
    · intro e; subst e; rw [fnan_the] at ha; cases ha
    · intro e; subst e; rw [ha] at hb; cases hb
  · constructor
    · intro e; subst e; rw [fnan_the] at hb; cases hb
    · intro e; subst e; rw [ha] at hb; cases hb

abbrev VVal.nrm (v : VVal) : VVal := ⟨v.kind, canonF v.num, v.text⟩
abbrev VCmd.nrm (c : VCmd) : VCmd := ⟨c.kind, c.key, c.old.nrm, c.val.nrm⟩
abbrev VCall.nrm (c : VCall) : VCall := ⟨c.client, c.seq, c.cmd.nrm⟩
abbrev Ent.nrm (x : Ent) : Ent := ⟨x.term, x.kind, x.call.nrm, x.conf⟩

theorem c_Float (a b : Nat) : Ctr Tryz.prog 158 [.sc (.float .f64 a), .sc (.float .f64 b)] (bv (decide (canonF a = canonF b))) [] := by
  refine spec_of_body mixed Tryz.func158 rfl (by kernel_rfl) (by kernel_rfl) ?_; conv => whnf
  ((first | (with_reducible refine split_dec (fun h => ?_) (fun h => ?_)) | (with_reducible refine split_beq (fun h => ?_) (fun h => ?_)) | (with_reducible refine split_bne (fun h => ?_) (fun h => ?_)) | (with_reducible refine split_not (fun h => ?_) (fun h => ?_)) | (with_reducible refine split_beqS (fun h => ?_) (fun h => ?_)) | (with_reducible refine split_intro (fun h => ?_) (fun h => ?_))) <;> conv => whnf)
  · have ha : fnan a = true := h
    ((first | (with_reducible refine split_dec (fun h => ?_) (fun h => ?_)) | (with_reducible refine split_beq (fun h => ?_) (fun h => ?_)) | (with_reducible refine split_bne (fun h => ?_) (fun h => ?_)) | (with_reducible refine split_not (fun h => ?_) (fun h => ?_)) | (with_reducible refine split_beqS (fun h => ?_) (fun h => ?_)) | (with_reducible refine split_intro (fun h => ?_) (fun h => ?_))) <;> conv => whnf)
    · have hb : fnan b = true := h
      exact exit_plain rfl (by rw [decide_eq_true (canonF_eq.2 (.inl ⟨ha, hb⟩))])
    · have hb : fnan b = false := h
      ((try ((refine Exists.intro none ?_); (conv => whnf))); first | ((with_reducible refine call_by (c_bits a) ?_); conv => whnf))
      ((try ((refine Exists.intro none ?_); (conv => whnf))); first | ((with_reducible refine call_by (c_bits b) ?_); conv => whnf))
      refine exit_plain rfl ?_
      have e : (canonF a = canonF b) ↔ ((a : Int) = (b : Int)) := by rw [canonF_eq, hb]; simp; omega
      show bv ((a : Int) == (b : Int)) = _
      rw [decide_eq_decide.2 e]; rfl
  · have ha : fnan a = false := h
    ((try ((refine Exists.intro none ?_); (conv => whnf))); first | ((with_reducible refine call_by (c_bits a) ?_); conv => whnf))
    ((try ((refine Exists.intro none ?_); (conv => whnf))); first | ((with_reducible refine call_by (c_bits b) ?_); conv => whnf))
    refine exit_plain rfl ?_
    have e : (canonF a = canonF b) ↔ ((a : Int) = (b : Int)) := by rw [canonF_eq, ha]; simp; omega
    show bv ((a : Int) == (b : Int)) = _
    rw [decide_eq_decide.2 e]; rfl

theorem VVal.nrm_eq {a b : VVal} : a.nrm = b.nrm ↔ a.kind = b.kind ∧ canonF a.num = canonF b.num ∧ a.text = b.text := by
  cases a; cases b; simp [VVal.nrm]
theorem VVal.nrm_dec (a b : VVal) : decide (a.nrm = b.nrm) = decide (a.kind = b.kind ∧ canonF a.num = canonF b.num ∧ a.text = b.text) := decide_eq_decide.2 VVal.nrm_eq
theorem VCmd.nrm_eq {a b : VCmd} : a.nrm = b.nrm ↔ a.kind = b.kind ∧ a.key = b.key ∧ a.old.nrm = b.old.nrm ∧ a.val.nrm = b.val.nrm := by
  cases a; cases b; simp [VCmd.nrm]
theorem VCmd.nrm_dec (a b : VCmd) : decide (a.nrm = b.nrm) = decide (a.kind = b.kind ∧ a.key = b.key ∧ a.old.nrm = b.old.nrm ∧ a.val.nrm = b.val.nrm) := decide_eq_decide.2 VCmd.nrm_eq
theorem VCall.nrm_eq {a b : VCall} : a.nrm = b.nrm ↔ a.client = b.client ∧ a.seq = b.seq ∧ a.cmd.nrm = b.cmd.nrm := by
  cases a; cases b; simp [VCall.nrm]
theorem VCall.nrm_dec (a b : VCall) : decide (a.nrm = b.nrm) = decide (a.client = b.client ∧ a.seq = b.seq ∧ a.cmd.nrm = b.cmd.nrm) := decide_eq_decide.2 VCall.nrm_eq
theorem Ent.nrm_eq {a b : Ent} : a.nrm = b.nrm ↔ a.term = b.term ∧ a.kind = b.kind ∧ a.call.nrm = b.call.nrm ∧ a.conf = b.conf := by
  cases a; cases b; simp [Ent.nrm]
theorem Ent.nrm_dec (a b : Ent) : decide (a.nrm = b.nrm) = decide (a.term = b.term ∧ a.kind = b.kind ∧ a.call.nrm = b.call.nrm ∧ a.conf = b.conf) := decide_eq_decide.2 Ent.nrm_eq

theorem c_kValue (a b : VVal) : Ctr Tryz.prog 141 [.ag a.enc, .ag b.enc] (bv (decide (a.nrm = b.nrm))) [] := by
  rw [VVal.nrm_dec]
  refine spec_of_body mixed Tryz.func141 rfl (by kernel_rfl) (by kernel_rfl) ?_; conv => whnf
  repeat' (first | ((first | (with_reducible refine split_dec (fun h => ?_) (fun h => ?_)) | (with_reducible refine split_beq (fun h => ?_) (fun h => ?_)) | (with_reducible refine split_bne (fun h => ?_) (fun h => ?_)) | (with_reducible refine split_not (fun h => ?_) (fun h => ?_)) | (with_reducible refine split_beqS (fun h => ?_) (fun h => ?_)) | (with_reducible refine split_intro (fun h => ?_) (fun h => ?_))) <;> conv => whnf) | ((try ((refine Exists.intro none ?_); (conv => whnf))); first | ((with_reducible refine call_by (c_Float a.num b.num) ?_); conv => whnf)))
  all_goals (refine exit_plain rfl ?_)
  all_goals simp_all [bl_inj, bl_beq]
theorem c_kCmd (a b : VCmd) : Ctr Tryz.prog 107 [.ag a.enc, .ag b.enc] (bv (decide (a.nrm = b.nrm))) [] := by
  rw [VCmd.nrm_dec]
  refine spec_of_body mixed Tryz.func107 rfl (by kernel_rfl) (by kernel_rfl) ?_; conv => whnf
  repeat' (first | ((first | (with_reducible refine split_dec (fun h => ?_) (fun h => ?_)) | (with_reducible refine split_beq (fun h => ?_) (fun h => ?_)) | (with_reducible refine split_bne (fun h => ?_) (fun h => ?_)) | (with_reducible refine split_not (fun h => ?_) (fun h => ?_)) | (with_reducible refine split_beqS (fun h => ?_) (fun h => ?_)) | (with_reducible refine split_intro (fun h => ?_) (fun h => ?_))) <;> conv => whnf) | ((try ((refine Exists.intro none ?_); (conv => whnf))); first | ((with_reducible refine call_by (c_kValue a.old b.old) ?_); conv => whnf) | ((with_reducible refine call_by (c_kValue a.val b.val) ?_); conv => whnf)))
  all_goals (refine exit_plain rfl ?_)
  all_goals simp_all [bl_inj, bl_beq]
theorem c_kCall (a b : VCall) : Ctr Tryz.prog 63 [.ag a.enc, .ag b.enc] (bv (decide (a.nrm = b.nrm))) [] := by
  rw [VCall.nrm_dec]
  refine spec_of_body mixed Tryz.func63 rfl (by kernel_rfl) (by kernel_rfl) ?_; conv => whnf
  repeat' (first | ((first | (with_reducible refine split_dec (fun h => ?_) (fun h => ?_)) | (with_reducible refine split_beq (fun h => ?_) (fun h => ?_)) | (with_reducible refine split_bne (fun h => ?_) (fun h => ?_)) | (with_reducible refine split_not (fun h => ?_) (fun h => ?_)) | (with_reducible refine split_beqS (fun h => ?_) (fun h => ?_)) | (with_reducible refine split_intro (fun h => ?_) (fun h => ?_))) <;> conv => whnf) | ((try ((refine Exists.intro none ?_); (conv => whnf))); first | ((with_reducible refine call_by (c_kCmd a.cmd b.cmd) ?_); conv => whnf)))
  all_goals (refine exit_plain rfl ?_)
  all_goals simp_all
/-! The program's own. -/
theorem c_IsNaN (x : Nat) : Ctr Tryz.prog 168 [.sc (.float .f64 x)] (bv (fnan x)) [] := by
  refine spec_of_body mixed Tryz.func168 rfl (by kernel_rfl) (by kernel_rfl) ?_; conv => whnf
  exact exit_plain rfl rfl
theorem c_frombits (x : Nat) (h : x < 18446744073709551616) : Ctr Tryz.prog 164 [.sc (.int .u64 x)] (.sc (.float .f64 x)) [] := by
  refine ctr_extern (e := Go.Extern.MathFloatBits.float64frombits) Tryz.func164 (by kernel_rfl) (by kernel_rfl) (by kernel_rfl) (by kernel_rfl) ?_
  intro w M vs hv
  simp only [RVL, RV] at hv
  obtain ⟨c, r, rfl, rfl, rfl⟩ := hv
  rfl
theorem c_nan : Ctr Tryz.prog 169 [] (.sc (.float .f64 theNaN)) [] := by
  have h := c_frombits theNaN (by decide)
  refine spec_of_body mixed Tryz.func169 rfl (by kernel_rfl) (by kernel_rfl) ?_; conv => whnf
  ((try ((refine Exists.intro none ?_); (conv => whnf))); first | ((with_reducible refine call_by (h) ?_); conv => whnf))
  exact exit_plain rfl rfl
theorem c_Canon (x : Nat) : Ctr Tryz.prog 165 [.sc (.float .f64 x)] (.sc (.float .f64 (canonF x))) [] := by
  refine spec_of_body mixed Tryz.func165 rfl (by kernel_rfl) (by kernel_rfl) ?_; conv => whnf
  ((try ((refine Exists.intro none ?_); (conv => whnf))); first | ((with_reducible refine call_by (c_IsNaN x) ?_); conv => whnf))
  ((first | (with_reducible refine split_dec (fun h => ?_) (fun h => ?_)) | (with_reducible refine split_beq (fun h => ?_) (fun h => ?_)) | (with_reducible refine split_bne (fun h => ?_) (fun h => ?_)) | (with_reducible refine split_not (fun h => ?_) (fun h => ?_)) | (with_reducible refine split_beqS (fun h => ?_) (fun h => ?_)) | (with_reducible refine split_intro (fun h => ?_) (fun h => ?_))) <;> conv => whnf)
  · ((try ((refine Exists.intro none ?_); (conv => whnf))); first | ((with_reducible refine call_by (c_nan) ?_); conv => whnf))
    exact exit_plain rfl (by simp [canonF, h])
  · exact exit_plain rfl (by simp [canonF, h])
theorem c_nSame (a b : Nat) : Ctr Tryz.prog 156 [.sc (.float .f64 a), .sc (.float .f64 b)] (bv (decide (canonF a = canonF b))) [] := by
  refine spec_of_body mixed Tryz.func156 rfl (by kernel_rfl) (by kernel_rfl) ?_; conv => whnf
  ((try ((refine Exists.intro none ?_); (conv => whnf))); first | ((with_reducible refine call_by (c_Canon a) ?_); conv => whnf))
  ((try ((refine Exists.intro none ?_); (conv => whnf))); first | ((with_reducible refine call_by (c_bits (canonF a)) ?_); conv => whnf))
  ((try ((refine Exists.intro none ?_); (conv => whnf))); first | ((with_reducible refine call_by (c_Canon b) ?_); conv => whnf))
  ((try ((refine Exists.intro none ?_); (conv => whnf))); first | ((with_reducible refine call_by (c_bits (canonF b)) ?_); conv => whnf))
  refine exit_plain rfl ?_
  show bv ((canonF a : Int) == (canonF b : Int)) = _
  have e : (canonF a = canonF b) ↔ ((canonF a : Int) = (canonF b : Int)) := by omega
  rw [decide_eq_decide.2 e]; rfl
end Go.Proofs

/- Contracts of functions: what holds of any two replicas; leaders. -/
namespace Go.Proofs
open Go.Pv
set_option maxRecDepth 100000

noncomputable def dec (p : Prop) : Bool := @decide p (Classical.propDecidable p)
theorem dec_true {p : Prop} (h : p) : dec p = true := by unfold dec; simp [h]
theorem dec_false {p : Prop} (h : ¬ p) : dec p = false := by unfold dec; simp [h]
/-- Of any two, the earlier one first. -/
def pairsP (f : Rft → Rft → Bool) (l : List Rft) : Prop := ∀ i (hi : i < l.length) k (hk : k < i), f (l[k]'(Nat.lt_trans hk hi)) (l[i]'hi) = true

def leadF (a b : Rft) : Bool := !(a.role == 3 && b.role == 3 && a.hard.term == b.hard.term)
end Go.Proofs

/- Contracts of functions: values, commands, calls that may be. -/
namespace Go.Proofs
open Go.Pv
set_option maxRecDepth 100000

noncomputable def checkV (v : VVal) : Int :=
  if v.kind < 0 ∨ 2 < v.kind then 15 else
  if v.kind = 2 ∧ 32 < (v.text.size : Int) then 2 else
  if (v.kind ≠ 2 ∧ v.text ≠ bz) ∨ (v.kind ≠ 1 ∧ v.num ≠ 0) then 8 else
  if fnan v.num = true ∧ v.num ≠ theNaN then 8 else 0

theorem fnan0 : fnan 0 = false := by decide +kernel
theorem canonF_eq0 (x : Nat) : canonF x = canonF 0 ↔ x = 0 := by
  rw [canonF_eq, fnan0]; simp
theorem canonF_id (x : Nat) : canonF x = x ↔ ¬ (fnan x = true ∧ x ≠ theNaN) := by
  unfold canonF
  cases h : fnan x
  · simp
  · simp only [if_true, true_and, ne_eq, Classical.not_not]; exact ⟨Eq.symm, Eq.symm⟩

theorem bl_nil (a : ByteArray) : a.toList = [] ↔ a = bz := by
  have h : (bz : ByteArray).toList = [] := by rw [bl_eq]
  rw [← h, bl_inj]
theorem c_nSame0 (x : Nat) : Ctr Tryz.prog 156 [.sc (.float .f64 x), .sc (.float .f64 0)] (bv (decide (x = 0))) [] := by
  have hs := c_nSame x 0
  rwa [decide_eq_decide.2 (canonF_eq0 x)] at hs

theorem nan_cast (x : Nat) : (x : Int) = 9221120237041090561 ↔ x = theNaN := by
  unfold theNaN; omega

theorem c_nought (x : Nat) : Ctr Tryz.prog 153 [.sc (.float .f64 x)] (bv (decide (x = 0))) [] := by
  refine spec_of_body mixed Tryz.func153 rfl (by kernel_rfl) (by kernel_rfl) ?_; conv => whnf
  ((try ((refine Exists.intro none ?_); (conv => whnf))); first | ((with_reducible refine call_by (c_bits x) ?_); conv => whnf))
  refine exit_plain rfl ?_
  show bv ((x : Int) == 0) = _
  have e : (x = 0) ↔ ((x : Int) = 0) := by omega
  rw [decide_eq_decide.2 e]; rfl
theorem c_rNaN : Ctr Tryz.prog 155 [] (.sc (.float .f64 theNaN)) [] := by
  have h := c_frombits theNaN (by decide)
  refine spec_of_body mixed Tryz.func155 rfl (by kernel_rfl) (by kernel_rfl) ?_; conv => whnf
  ((try ((refine Exists.intro none ?_); (conv => whnf))); first | ((with_reducible refine call_by (h) ?_); conv => whnf))
  exact exit_plain rfl rfl

theorem c_rCheck05 (v : VVal) : Ctr Tryz.prog 131 [.ag v.enc] (iv (checkV v)) [] := by
  refine spec_of_body mixed Tryz.func131 rfl (by kernel_rfl) (by kernel_rfl) ?_; conv => whnf
  repeat' (first | ((first | (with_reducible refine split_dec (fun h => ?_) (fun h => ?_)) | (with_reducible refine split_beq (fun h => ?_) (fun h => ?_)) | (with_reducible refine split_bne (fun h => ?_) (fun h => ?_)) | (with_reducible refine split_not (fun h => ?_) (fun h => ?_)) | (with_reducible refine split_beqS (fun h => ?_) (fun h => ?_)) | (with_reducible refine split_intro (fun h => ?_) (fun h => ?_))) <;> conv => whnf) | ((try ((refine Exists.intro none ?_); (conv => whnf))); first | ((with_reducible refine call_by (c_nought v.num) ?_); conv => whnf) | ((with_reducible refine call_by (c_bits v.num) ?_); conv => whnf) | ((with_reducible refine call_by (c_rNaN) ?_); conv => whnf) | ((with_reducible refine call_by (c_bits theNaN) ?_); conv => whnf)))
  all_goals (refine exit_plain rfl (congrArg (fun n : Int => iv n) ?_))
  all_goals (unfold checkV)
  all_goals (try simp only [bl_beq, decide_eq_true_eq, decide_eq_false_iff_not, fnan] at *)
  all_goals (try simp_all [bl_nil, nan_cast])
  all_goals (try ((repeat' split) <;> first | omega | simp_all [bl_nil, nan_cast] | skip))

theorem c_canon (x : Nat) : Ctr Tryz.prog 157 [.sc (.float .f64 x)] (bv (decide (canonF x = x))) [] := by
  refine spec_of_body mixed Tryz.func157 rfl (by kernel_rfl) (by kernel_rfl) ?_; conv => whnf
  ((try ((refine Exists.intro none ?_); (conv => whnf))); first | ((with_reducible refine call_by (c_Canon x) ?_); conv => whnf))
  ((try ((refine Exists.intro none ?_); (conv => whnf))); first | ((with_reducible refine call_by (c_bits (canonF x)) ?_); conv => whnf))
  ((try ((refine Exists.intro none ?_); (conv => whnf))); first | ((with_reducible refine call_by (c_bits x) ?_); conv => whnf))
  refine exit_plain rfl ?_
  show bv ((canonF x : Int) == (x : Int)) = _
  have e : (canonF x = x) ↔ ((canonF x : Int) = (x : Int)) := by omega
  rw [decide_eq_decide.2 e]; rfl

theorem c_vCheck (v : VVal) : Ctr Tryz.prog 135 [.ag v.enc] (iv (checkV v)) [] := by
  have f0 := fnan0
  refine spec_of_body mixed Tryz.func135 rfl (by kernel_rfl) (by kernel_rfl) ?_; conv => whnf
  repeat' (first | ((first | (with_reducible refine split_dec (fun h => ?_) (fun h => ?_)) | (with_reducible refine split_beq (fun h => ?_) (fun h => ?_)) | (with_reducible refine split_bne (fun h => ?_) (fun h => ?_)) | (with_reducible refine split_not (fun h => ?_) (fun h => ?_)) | (with_reducible refine split_beqS (fun h => ?_) (fun h => ?_)) | (with_reducible refine split_intro (fun h => ?_) (fun h => ?_))) <;> conv => whnf) | ((try ((refine Exists.intro none ?_); (conv => whnf))); first | ((with_reducible refine call_by (c_nSame0 v.num) ?_); conv => whnf) | ((with_reducible refine call_by (c_canon v.num) ?_); conv => whnf)))
  all_goals (refine exit_plain rfl (congrArg (fun n : Int => iv n) ?_))
  all_goals (unfold checkV)
  all_goals (try simp only [bl_beq, canonF_id, decide_eq_true_eq, decide_eq_false_iff_not] at *)
  all_goals (try simp_all [bl_nil])
  all_goals (try ((repeat' split) <;> first | omega | simp_all [bl_nil] | skip))
end Go.Proofs

/- Contracts of functions: commands and calls that may be; the zero call. -/
namespace Go.Proofs
open Go.Pv
set_option maxRecDepth 100000

/-- The zero value. -/
noncomputable def zeroV (v : VVal) : Bool := decide (v.kind = 0 ∧ v.num = 0 ∧ v.text = bz)
theorem zeroV_iff (v : VVal) : zeroV v = true ↔ v.kind = 0 ∧ checkV v = 0 := by
  unfold zeroV checkV
  rw [decide_eq_true_eq]
  have f0 := fnan0
  constructor
  · rintro ⟨h1, h2, h3⟩
    rw [h1, h2, h3]; simp [f0]
  · rintro ⟨h1, h2⟩
    rw [h1] at h2
    refine ⟨h1, ?_⟩
    simp only [show ¬ ((0 : Int) < 0 ∨ (2 : Int) < 0) by omega, if_false] at h2
    split at h2
    · omega
    · split at h2
      · omega
      · rename_i _ h3
        have h3' : ¬ ((0 : Int) ≠ 2 ∧ v.text ≠ bz) ∧ ¬ ((0 : Int) ≠ 1 ∧ v.num ≠ 0) := ⟨fun h => h3 (.inl h), fun h => h3 (.inr h)⟩
        simp at h3'
        exact ⟨h3'.2, h3'.1⟩

theorem c_zero (v : VVal) : Ctr Tryz.prog 130 [.ag v.enc] (bv (zeroV v)) [] := by
  refine spec_of_body mixed Tryz.func130 rfl (by kernel_rfl) (by kernel_rfl) ?_; conv => whnf
  ((first | (with_reducible refine split_dec (fun h => ?_) (fun h => ?_)) | (with_reducible refine split_beq (fun h => ?_) (fun h => ?_)) | (with_reducible refine split_bne (fun h => ?_) (fun h => ?_)) | (with_reducible refine split_not (fun h => ?_) (fun h => ?_)) | (with_reducible refine split_beqS (fun h => ?_) (fun h => ?_)) | (with_reducible refine split_intro (fun h => ?_) (fun h => ?_))) <;> conv => whnf)
  · ((try ((refine Exists.intro none ?_); (conv => whnf))); first | ((with_reducible refine call_by (c_rCheck05 v) ?_); conv => whnf))
    refine exit_plain rfl (congrArg (fun b : Bool => bv b) ?_)
    rw [Bool.eq_iff_iff, zeroV_iff, beq_iff_eq]
    simp [h]
  · exact exit_plain rfl (by simp [zeroV, h])
theorem c_none (v : VVal) : Ctr Tryz.prog 136 [.ag v.enc] (bv (zeroV v)) [] := by
  refine spec_of_body mixed Tryz.func136 rfl (by kernel_rfl) (by kernel_rfl) ?_; conv => whnf
  repeat' (first | ((first | (with_reducible refine split_dec (fun h => ?_) (fun h => ?_)) | (with_reducible refine split_beq (fun h => ?_) (fun h => ?_)) | (with_reducible refine split_bne (fun h => ?_) (fun h => ?_)) | (with_reducible refine split_not (fun h => ?_) (fun h => ?_)) | (with_reducible refine split_beqS (fun h => ?_) (fun h => ?_)) | (with_reducible refine split_intro (fun h => ?_) (fun h => ?_))) <;> conv => whnf) | ((try ((refine Exists.intro none ?_); (conv => whnf))); first | ((with_reducible refine call_by (c_nSame0 v.num) ?_); conv => whnf)))
  all_goals (refine exit_plain rfl (congrArg (fun n : Bool => bv n) ?_))
  all_goals (unfold zeroV)
  all_goals (try simp only [bl_beq, decide_eq_true_eq, decide_eq_false_iff_not] at *)
  all_goals (simp_all [bl_nil])
theorem c_noValue (v : VVal) : Ctr Tryz.prog 166 [.ag v.enc] (bv (zeroV v)) [] := by
  refine spec_of_body mixed Tryz.func166 rfl (by kernel_rfl) (by kernel_rfl) ?_; conv => whnf
  repeat' (first | ((first | (with_reducible refine split_dec (fun h => ?_) (fun h => ?_)) | (with_reducible refine split_beq (fun h => ?_) (fun h => ?_)) | (with_reducible refine split_bne (fun h => ?_) (fun h => ?_)) | (with_reducible refine split_not (fun h => ?_) (fun h => ?_)) | (with_reducible refine split_beqS (fun h => ?_) (fun h => ?_)) | (with_reducible refine split_intro (fun h => ?_) (fun h => ?_))) <;> conv => whnf) | ((try ((refine Exists.intro none ?_); (conv => whnf))); first | ((with_reducible refine call_by (c_nSame0 v.num) ?_); conv => whnf)))
  all_goals (refine exit_plain rfl (congrArg (fun n : Bool => bv n) ?_))
  all_goals (unfold zeroV)
  all_goals (try simp only [bl_beq, decide_eq_true_eq, decide_eq_false_iff_not] at *)
  all_goals (simp_all [bl_nil])

noncomputable def cmdR (c : VCmd) : Int :=
  if c.kind < 1 ∨ 6 < c.kind then 15 else
  if 8 < (c.key.size : Int) then 2 else
  if (c.key.size : Int) < 1 ∨ (c.kind ≠ 4 ∧ zeroV c.old = false) ∨ checkV c.old ≠ 0 ∨ checkV c.val ≠ 0 then 8 else
  if c.kind = 1 ∨ c.kind = 3 then (if zeroV c.val then 0 else 8) else
  if c.kind = 2 then (if c.val.kind = 0 then 8 else 0) else
  if c.kind = 5 ∨ c.kind = 6 then (if c.val.kind = 1 then 0 else 8) else 0

set_option maxHeartbeats 2000000 in
theorem c_rCmd (c : VCmd) : Ctr Tryz.prog 83 [.ag c.enc] (iv (cmdR c)) [] := by
  refine spec_of_body mixed Tryz.func83 rfl (by kernel_rfl) (by kernel_rfl) ?_; conv => whnf
  repeat' (first | ((first | (with_reducible refine split_dec (fun h => ?_) (fun h => ?_)) | (with_reducible refine split_beq (fun h => ?_) (fun h => ?_)) | (with_reducible refine split_bne (fun h => ?_) (fun h => ?_)) | (with_reducible refine split_not (fun h => ?_) (fun h => ?_)) | (with_reducible refine split_beqS (fun h => ?_) (fun h => ?_)) | (with_reducible refine split_intro (fun h => ?_) (fun h => ?_))) <;> conv => whnf) | ((try ((refine Exists.intro none ?_); (conv => whnf))); first | ((with_reducible refine call_by (c_zero c.old) ?_); conv => whnf) | ((with_reducible refine call_by (c_zero c.val) ?_); conv => whnf) | ((with_reducible refine call_by (c_rCheck05 c.old) ?_); conv => whnf) | ((with_reducible refine call_by (c_rCheck05 c.val) ?_); conv => whnf)))
  all_goals (refine exit_plain rfl (congrArg (fun n : Int => iv n) ?_))
  all_goals (unfold cmdR)
  all_goals (try simp_all)
  all_goals (try ((repeat' split) <;> first | omega | simp_all | skip))

theorem c_rightKey (s : ByteArray) : Ctr Tryz.prog 134 [sv s] (bv (decide (1 ≤ (s.size : Int) ∧ (s.size : Int) ≤ 8))) [] := by
  refine spec_of_body mixed Tryz.func134 rfl (by kernel_rfl) (by kernel_rfl) ?_; conv => whnf
  repeat' ((first | (with_reducible refine split_dec (fun h => ?_) (fun h => ?_)) | (with_reducible refine split_beq (fun h => ?_) (fun h => ?_)) | (with_reducible refine split_bne (fun h => ?_) (fun h => ?_)) | (with_reducible refine split_not (fun h => ?_) (fun h => ?_)) | (with_reducible refine split_beqS (fun h => ?_) (fun h => ?_)) | (with_reducible refine split_intro (fun h => ?_) (fun h => ?_))) <;> conv => whnf)
  all_goals (refine exit_plain rfl (congrArg (fun n : Bool => bv n) ?_))
  all_goals simp_all
  all_goals omega
set_option maxHeartbeats 2000000 in
theorem c_kvRight (c : VCmd) : Ctr Tryz.prog 88 [.ag c.enc] (iv (cmdR c)) [] := by
  have z1 := zeroV_iff c.old
  have z2 := zeroV_iff c.val
  refine spec_of_body mixed Tryz.func88 rfl (by kernel_rfl) (by kernel_rfl) ?_; conv => whnf
  repeat' (first | ((first | (with_reducible refine split_dec (fun h => ?_) (fun h => ?_)) | (with_reducible refine split_beq (fun h => ?_) (fun h => ?_)) | (with_reducible refine split_bne (fun h => ?_) (fun h => ?_)) | (with_reducible refine split_not (fun h => ?_) (fun h => ?_)) | (with_reducible refine split_beqS (fun h => ?_) (fun h => ?_)) | (with_reducible refine split_intro (fun h => ?_) (fun h => ?_))) <;> conv => whnf) | ((try ((refine Exists.intro none ?_); (conv => whnf))); first | ((with_reducible refine call_by (c_rightKey c.key) ?_); conv => whnf) | ((with_reducible refine call_by (c_none c.old) ?_); conv => whnf) | ((with_reducible refine call_by (c_none c.val) ?_); conv => whnf) | ((with_reducible refine call_by (c_vCheck c.old) ?_); conv => whnf) | ((with_reducible refine call_by (c_vCheck c.val) ?_); conv => whnf)))
  all_goals (refine exit_plain rfl (congrArg (fun n : Int => iv n) ?_))
  all_goals (unfold cmdR)
  all_goals (try simp_all)
  all_goals (try ((repeat' split) <;> first | omega | simp_all | skip))
end Go.Proofs

/- Contracts of functions: calls, entries, logs that may be. -/
namespace Go.Proofs
open Go.Pv
set_option maxRecDepth 100000

noncomputable def callR (c : VCall) : Int := if c.client < 1 ∨ 4 < c.client ∨ c.seq < 1 ∨ 1099511627776 < c.seq then 1 else cmdR c.cmd
theorem c_rCall (c : VCall) : Ctr Tryz.prog 37 [.ag c.enc] (iv (callR c)) [] := by
  refine spec_of_body mixed Tryz.func37 rfl (by kernel_rfl) (by kernel_rfl) ?_; conv => whnf
  repeat' (first | ((first | (with_reducible refine split_dec (fun h => ?_) (fun h => ?_)) | (with_reducible refine split_beq (fun h => ?_) (fun h => ?_)) | (with_reducible refine split_bne (fun h => ?_) (fun h => ?_)) | (with_reducible refine split_not (fun h => ?_) (fun h => ?_)) | (with_reducible refine split_beqS (fun h => ?_) (fun h => ?_)) | (with_reducible refine split_intro (fun h => ?_) (fun h => ?_))) <;> conv => whnf) | ((try ((refine Exists.intro none ?_); (conv => whnf))); first | ((with_reducible refine call_by (c_rCmd c.cmd) ?_); conv => whnf)))
  all_goals (refine exit_plain rfl (congrArg (fun n : Int => iv n) ?_))
  all_goals (unfold callR)
  all_goals (try simp_all)
  all_goals (try ((repeat' split) <;> first | omega | simp_all | skip))
theorem c_rightNumber (a b : Int) : Ctr Tryz.prog 87 [iv a, iv b] (bv (decide (¬ (a < 1 ∨ 4 < a ∨ b < 1 ∨ 1099511627776 < b)))) [] := by
  refine spec_of_body mixed Tryz.func87 rfl (by kernel_rfl) (by kernel_rfl) ?_; conv => whnf
  repeat' ((first | (with_reducible refine split_dec (fun h => ?_) (fun h => ?_)) | (with_reducible refine split_beq (fun h => ?_) (fun h => ?_)) | (with_reducible refine split_bne (fun h => ?_) (fun h => ?_)) | (with_reducible refine split_not (fun h => ?_) (fun h => ?_)) | (with_reducible refine split_beqS (fun h => ?_) (fun h => ?_)) | (with_reducible refine split_intro (fun h => ?_) (fun h => ?_))) <;> conv => whnf)
  all_goals (refine exit_plain rfl (congrArg (fun n : Bool => bv n) ?_))
  all_goals (try simp_all)
  all_goals (try omega)
theorem c_sRight (c : VCall) : Ctr Tryz.prog 41 [.ag c.enc] (iv (callR c)) [] := by
  refine spec_of_body mixed Tryz.func41 rfl (by kernel_rfl) (by kernel_rfl) ?_; conv => whnf
  ((try ((refine Exists.intro none ?_); (conv => whnf))); first | ((with_reducible refine call_by (c_rightNumber c.client c.seq) ?_); conv => whnf))
  repeat' (first | ((first | (with_reducible refine split_dec (fun h => ?_) (fun h => ?_)) | (with_reducible refine split_beq (fun h => ?_) (fun h => ?_)) | (with_reducible refine split_bne (fun h => ?_) (fun h => ?_)) | (with_reducible refine split_not (fun h => ?_) (fun h => ?_)) | (with_reducible refine split_beqS (fun h => ?_) (fun h => ?_)) | (with_reducible refine split_intro (fun h => ?_) (fun h => ?_))) <;> conv => whnf) | ((try ((refine Exists.intro none ?_); (conv => whnf))); first | ((with_reducible refine call_by (c_kvRight c.cmd) ?_); conv => whnf)))
  all_goals (refine exit_plain rfl (congrArg (fun n : Int => iv n) ?_))
  all_goals (unfold callR)
  · rw [if_pos (by simp at h; omega)]
  · rw [if_neg (by simp at h; omega)]

/-- The zero call. -/
noncomputable def zeroC (c : VCall) : Bool := decide (c.client = 0 ∧ c.seq = 0 ∧ c.cmd.kind = 0 ∧ c.cmd.key = bz) && (zeroV c.cmd.old && zeroV c.cmd.val)
theorem zeroV_nrm (v : VVal) : v.nrm = vz.nrm ↔ zeroV v = true := by
  rw [VVal.nrm_eq, canonF_eq0, zeroV, decide_eq_true_eq]
theorem zeroC_nrm (c : VCall) : c.nrm = kz.nrm ↔ zeroC c = true := by
  rw [VCall.nrm_eq, VCmd.nrm_eq, zeroC, Bool.and_eq_true, Bool.and_eq_true, decide_eq_true_eq, ← zeroV_nrm, ← zeroV_nrm]
  constructor
  · rintro ⟨h1, h2, h3, h4, h5, h6⟩; exact ⟨⟨h1, h2, h3, h4⟩, h5, h6⟩
  · rintro ⟨⟨h1, h2, h3, h4⟩, h5, h6⟩; exact ⟨h1, h2, h3, h4, h5, h6⟩
theorem c_zeroCall (c : VCall) : Ctr Tryz.prog 73 [.ag c.enc] (bv (zeroC c)) [] := by
  refine spec_of_body mixed Tryz.func73 rfl (by kernel_rfl) (by kernel_rfl) ?_; conv => whnf
  ((try ((refine Exists.intro none ?_); (conv => whnf))); first | ((with_reducible refine call_by (c_kCall c kz) ?_); conv => whnf))
  refine exit_plain rfl (congrArg (fun n : Bool => bv n) ?_)
  rw [Bool.eq_iff_iff, decide_eq_true_eq, zeroC_nrm]
theorem c_zeroConf (c : Conf) : Ctr Tryz.prog 74 [.ag c.enc] (bv (decide (c = cz))) [] := by
  refine spec_of_body mixed Tryz.func74 rfl (by kernel_rfl) (by kernel_rfl) ?_; conv => whnf
  ((try ((refine Exists.intro none ?_); (conv => whnf))); first | ((with_reducible refine call_by (c_kConf c cz) ?_); conv => whnf))
  exact exit_plain rfl rfl
theorem c_noCall (c : VCall) : Ctr Tryz.prog 159 [.ag c.enc] (bv (zeroC c)) [] := by
  refine spec_of_body mixed Tryz.func159 rfl (by kernel_rfl) (by kernel_rfl) ?_; conv => whnf
  repeat' (first | ((first | (with_reducible refine split_dec (fun h => ?_) (fun h => ?_)) | (with_reducible refine split_beq (fun h => ?_) (fun h => ?_)) | (with_reducible refine split_bne (fun h => ?_) (fun h => ?_)) | (with_reducible refine split_not (fun h => ?_) (fun h => ?_)) | (with_reducible refine split_beqS (fun h => ?_) (fun h => ?_)) | (with_reducible refine split_intro (fun h => ?_) (fun h => ?_))) <;> conv => whnf) | ((try ((refine Exists.intro none ?_); (conv => whnf))); first | ((with_reducible refine call_by (c_noValue c.cmd.old) ?_); conv => whnf) | ((with_reducible refine call_by (c_noValue c.cmd.val) ?_); conv => whnf)))
  all_goals (refine exit_plain rfl (congrArg (fun n : Bool => bv n) ?_))
  all_goals (unfold zeroC)
  all_goals (simp_all [bl_nil])

noncomputable def entryB (x : Ent) : Bool :=
  if x.kind = 0 then zeroC x.call && decide (x.conf = cz) else
  if x.kind = 1 then decide (callR x.call = 0) && decide (x.conf = cz) else
  if x.kind = 2 then zeroC x.call && confB x.conf else false
theorem c_rEntry (x : Ent) : Ctr Tryz.prog 27 [.ag x.enc] (bv (entryB x)) [] := by
  refine spec_of_body mixed Tryz.func27 rfl (by kernel_rfl) (by kernel_rfl) ?_; conv => whnf
  repeat' (first | ((first | (with_reducible refine split_dec (fun h => ?_) (fun h => ?_)) | (with_reducible refine split_beq (fun h => ?_) (fun h => ?_)) | (with_reducible refine split_bne (fun h => ?_) (fun h => ?_)) | (with_reducible refine split_not (fun h => ?_) (fun h => ?_)) | (with_reducible refine split_beqS (fun h => ?_) (fun h => ?_)) | (with_reducible refine split_intro (fun h => ?_) (fun h => ?_))) <;> conv => whnf) | ((try ((refine Exists.intro none ?_); (conv => whnf))); first | ((with_reducible refine call_by (c_zeroCall x.call) ?_); conv => whnf) | ((with_reducible refine call_by (c_zeroConf x.conf) ?_); conv => whnf) | ((with_reducible refine call_by (c_rCall x.call) ?_); conv => whnf) | ((with_reducible refine call_by (c_rConf x.conf) ?_); conv => whnf)))
  all_goals (refine exit_plain rfl (congrArg (fun n : Bool => bv n) ?_))
  all_goals (unfold entryB)
  all_goals (try simp_all)
theorem c_rightEntry (x : Ent) : Ctr Tryz.prog 143 [.ag x.enc] (bv (entryB x)) [] := by
  refine spec_of_body mixed Tryz.func143 rfl (by kernel_rfl) (by kernel_rfl) ?_; conv => whnf
  repeat' (first | ((first | (with_reducible refine split_dec (fun h => ?_) (fun h => ?_)) | (with_reducible refine split_beq (fun h => ?_) (fun h => ?_)) | (with_reducible refine split_bne (fun h => ?_) (fun h => ?_)) | (with_reducible refine split_not (fun h => ?_) (fun h => ?_)) | (with_reducible refine split_beqS (fun h => ?_) (fun h => ?_)) | (with_reducible refine split_intro (fun h => ?_) (fun h => ?_))) <;> conv => whnf) | ((try ((refine Exists.intro none ?_); (conv => whnf))); first | ((with_reducible refine call_by (c_noCall x.call) ?_); conv => whnf) | ((with_reducible refine call_by (c_sRight x.call) ?_); conv => whnf) | ((with_reducible refine call_by (c_Check x.conf) ?_); conv => whnf)) | (refine ⟨eqOk23, _, eqConf x.conf cz, ?_⟩; conv => whnf))
  all_goals (refine exit_plain rfl (congrArg (fun n : Bool => bv n) ?_))
  all_goals (unfold entryB)
  all_goals (try simp_all)
  all_goals (cases confB x.conf <;> simp)

/-- Entries that may stand behind a term, in a log of a term. -/
noncomputable def rowB : List Ent → Int → Int → Bool
  | [], _, _ => true
  | x :: l, b, t => (decide (max b 1 ≤ x.term ∧ x.term ≤ t) && entryB x) && rowB l x.term t
/-- The term ahead of entry i. -/
def behind (l : List Ent) (b : Int) (i : Nat) : Int := match (l.take i).getLast? with
  | none => b
  | some x => x.term
theorem behind_0 (l : List Ent) (b : Int) : behind l b 0 = b := by simp [behind]
theorem behind_succ {l : List Ent} {b : Int} {i : Nat} (h : i < l.length) : behind l b (i + 1) = (l[i]'h).term := by
  have e : (l.take (i + 1)).getLast? = some (l[i]'h) := by rw [List.take_succ_eq_append_getElem h, List.getLast?_append]; rfl
  unfold behind
  rw [e]
theorem rowB_iff : ∀ (l : List Ent) (b t : Int), rowB l b t = true ↔ ∀ i (h : i < l.length), max (behind l b i) 1 ≤ (l[i]'h).term ∧ (l[i]'h).term ≤ t ∧ entryB (l[i]'h) = true
  | [], b, t => by simp [rowB]
  | x :: l, b, t => by
    simp only [rowB, Bool.and_eq_true, decide_eq_true_eq, rowB_iff l x.term t]
    constructor
    · rintro ⟨⟨⟨h1, h2⟩, h3⟩, h4⟩ i hi
      cases i with
      | zero => rw [behind_0]; exact ⟨h1, h2, h3⟩
      | succ i =>
        have := h4 i (by simpa using hi)
        have e : behind (x :: l) b (i + 1) = behind l x.term i := by
          cases i with
          | zero => rw [behind_0, behind_succ (by simp)]; simp
          | succ i => rw [behind_succ (by simp at hi ⊢; omega), behind_succ (by simp at hi; omega)]; simp
        rw [e]; simpa using this
    · intro h
      have h0 := h 0 (by simp)
      rw [behind_0] at h0
      refine ⟨⟨⟨h0.1, h0.2.1⟩, h0.2.2⟩, fun i hi => ?_⟩
      have := h (i + 1) (by simpa using hi)
      have e : behind (x :: l) b (i + 1) = behind l x.term i := by
        cases i with
        | zero => rw [behind_0, behind_succ (by simp)]; simp
        | succ i => rw [behind_succ (by simp; omega), behind_succ (by omega)]; simp
      rw [e] at this; simpa using this

theorem c_rightEntries (l : List Ent) (hm : l.length ≤ maxLen) (b t : Int) : Ctr Tryz.prog 110 [.sl 16 (l.map Ent.enc), iv b, iv t] (bv (rowB l b t)) [] := by
  have hm' : l.length ≤ 9223372036854775807 := Nat.le_trans hm (by decide)
  have emax : ∀ x : Int, (if (1 : Int) > x then 1 else x) = max x 1 := by intro x; split <;> omega
  refine spec_of_body mixed Tryz.func110 rfl (by kernel_rfl) (by kernel_rfl) ?_; conv => whnf
  refine tri_for0 mixed (by kernel_rfl) (fun i : Nat => i ≤ l.length ∧ ∀ j (hj : j < l.length), j < i → max (behind l b j) 1 ≤ (l[j]'hj).term ∧ (l[j]'hj).term ≤ t ∧ entryB (l[j]'hj) = true) (fun i => [(14, iv i), (7, iv (max (behind l b i) 1))]) [] (fun i => l.length - i) 0 ⟨Nat.zero_le _, fun j _ h => absurd h (Nat.not_lt_zero _)⟩ ?_ ?_
  · conv => whnf
    (refine And.intro (And.intro (by with_unfolding_all rfl) (by intro q h; cases h)) ?_; refine And.intro ?_ (And.intro ?_ ?_) <;> (conv => whnf) <;> (repeat' (first | exact True.intro | (with_reducible exact rfl) | exact (rfl : List.replicate 0 PV.bad = []) | ((with_reducible refine And.intro ?_ ?_) <;> (first | (with_reducible exact wkV_same _ rfl) | exact wkV_pt rfl rfl | exact wkV_ow rfl rfl rfl | (refine wkV_ow rfl rfl ?_) | (refine wkV_sc (congrArg (Value.int .i64) ?_)) | (refine wkV_sc (congrArg Value.bool ?_)) | exact wkV_ls rfl | ((refine wkV_cl ?_); conv => whnf) | ((refine wkV_tu ?_); conv => whnf) | ((refine wkV_ag ?_); conv => whnf) | (conv => whnf))))))
    all_goals first | rfl | (rw [behind_0]; exact emax b)
  rintro i ⟨hi, hp⟩
  conv => whnf
  ((first | (with_reducible refine split_dec (fun h => ?_) (fun h => ?_)) | (with_reducible refine split_beq (fun h => ?_) (fun h => ?_)) | (with_reducible refine split_bne (fun h => ?_) (fun h => ?_)) | (with_reducible refine split_not (fun h => ?_) (fun h => ?_)) | (with_reducible refine split_beqS (fun h => ?_) (fun h => ?_)) | (with_reducible refine split_intro (fun h => ?_) (fun h => ?_))) <;> conv => whnf)
  · simp only [List.length_map] at h
    have hlt : i < l.length := by omega
    have bad : ¬ (max (behind l b i) 1 ≤ (l[i]'hlt).term ∧ (l[i]'hlt).term ≤ t ∧ entryB (l[i]'hlt) = true) → rowB l b t = false := by
      intro hn
      rw [← Bool.not_eq_true, rowB_iff]
      exact fun hh => hn (hh i hlt)
    (first | ((with_reducible refine And.intro (by omega) (Exists.intro _ (And.intro (row_at hlt) ?_))); conv => whnf))
    ((first | (with_reducible refine split_dec (fun h => ?_) (fun h => ?_)) | (with_reducible refine split_beq (fun h => ?_) (fun h => ?_)) | (with_reducible refine split_bne (fun h => ?_) (fun h => ?_)) | (with_reducible refine split_not (fun h => ?_) (fun h => ?_)) | (with_reducible refine split_beqS (fun h => ?_) (fun h => ?_)) | (with_reducible refine split_intro (fun h => ?_) (fun h => ?_))) <;> conv => whnf)
    · exact exit_plain rfl (by rw [bad (by omega)])
    · have h1 := h
      ((first | (with_reducible refine split_dec (fun h => ?_) (fun h => ?_)) | (with_reducible refine split_beq (fun h => ?_) (fun h => ?_)) | (with_reducible refine split_bne (fun h => ?_) (fun h => ?_)) | (with_reducible refine split_not (fun h => ?_) (fun h => ?_)) | (with_reducible refine split_beqS (fun h => ?_) (fun h => ?_)) | (with_reducible refine split_intro (fun h => ?_) (fun h => ?_))) <;> conv => whnf)
      · exact exit_plain rfl (by rw [bad (by omega)])
      · have h2 := h
        ((try ((refine Exists.intro none ?_); (conv => whnf))); first | ((with_reducible refine call_by (c_rightEntry (l[i]'hlt)) ?_); conv => whnf))
        ((first | (with_reducible refine split_dec (fun h => ?_) (fun h => ?_)) | (with_reducible refine split_beq (fun h => ?_) (fun h => ?_)) | (with_reducible refine split_bne (fun h => ?_) (fun h => ?_)) | (with_reducible refine split_not (fun h => ?_) (fun h => ?_)) | (with_reducible refine split_beqS (fun h => ?_) (fun h => ?_)) | (with_reducible refine split_intro (fun h => ?_) (fun h => ?_))) <;> conv => whnf)
        · exact exit_plain rfl (by rw [bad (by rw [h]; simp)])
        · refine ⟨i + 1, ⟨⟨by omega, ?_⟩, by omega⟩, ?_⟩
          · intro j hj hji
            by_cases e : j = i
            · subst e; exact ⟨by omega, by omega, h⟩
            · exact hp j hj (by omega)
          · rw [behind_succ hlt, show max (l[i]'hlt).term 1 = (l[i]'hlt).term from by omega]
            conv => whnf
            (refine And.intro (And.intro (by with_unfolding_all rfl) (by intro q h; cases h)) ?_; refine And.intro ?_ (And.intro ?_ ?_) <;> (conv => whnf) <;> (repeat' (first | exact True.intro | (with_reducible exact rfl) | exact (rfl : List.replicate 0 PV.bad = []) | ((with_reducible refine And.intro ?_ ?_) <;> (first | (with_reducible exact wkV_same _ rfl) | exact wkV_pt rfl rfl | exact wkV_ow rfl rfl rfl | (refine wkV_ow rfl rfl ?_) | (refine wkV_sc (congrArg (Value.int .i64) ?_)) | (refine wkV_sc (congrArg Value.bool ?_)) | exact wkV_ls rfl | ((refine wkV_cl ?_); conv => whnf) | ((refine wkV_tu ?_); conv => whnf) | ((refine wkV_ag ?_); conv => whnf) | (conv => whnf))))))
            all_goals first | exact w1 (by omega) | rfl
  · simp only [List.length_map] at h
    have : i = l.length := by omega
    subst this
    refine exit_plain rfl (congrArg (fun b : Bool => bv b) ?_)
    symm
    rw [rowB_iff]
    intro j hj
    exact hp j hj hj
end Go.Proofs

/- Contracts of functions: hard states that may be. -/
namespace Go.Proofs
open Go.Pv
set_option maxRecDepth 100000

structure HardA (h : Hrd) : Prop where
  t : 0 ≤ h.term ∧ h.term ≤ 1099511627776
  v : -1 ≤ h.vote ∧ h.vote ≤ 6
  b : 0 ≤ h.base ∧ h.base ≤ 1099511627776
  bt : 0 ≤ h.baseTerm ∧ h.baseTerm ≤ h.term
  z : h.baseTerm = 0 ↔ h.base = 0
noncomputable def hardB (h : Hrd) : Bool := dec (HardA h) && (confB h.baseConf && (decide (h.snap.length ≤ 16384 ∧ (0 < h.base ∨ h.snap.length = 0)) && rowB h.log h.baseTerm h.term))

theorem hardA_iff (h : Hrd) : HardA h ↔ ((0 ≤ h.term ∧ h.term ≤ 1099511627776) ∧ (-1 ≤ h.vote ∧ h.vote ≤ 6) ∧ (0 ≤ h.base ∧ h.base ≤ 1099511627776) ∧ (0 ≤ h.baseTerm ∧ h.baseTerm ≤ h.term) ∧ (h.baseTerm = 0 ↔ h.base = 0)) :=
  ⟨fun ⟨a, b, c, d, e⟩ => ⟨a, b, c, d, e⟩, fun ⟨a, b, c, d, e⟩ => ⟨a, b, c, d, e⟩⟩

theorem c_lCheck (a : Hrd) (hm : a.log.length ≤ maxLen) : Ctr Tryz.prog 69 [.ag a.enc] (iv (if hardB a then 0 else 6)) [] := by
  have no : ¬ HardA a → hardB a = false := fun hn => by unfold hardB; rw [dec_false hn]; rfl
  have hz : ((a.baseTerm == 0) != (a.base == 0)) = true ↔ ¬ (a.baseTerm = 0 ↔ a.base = 0) := by
    rw [bne_iff_ne, ne_eq, Bool.eq_iff_iff, beq_iff_eq, beq_iff_eq]
  refine spec_of_body mixed Tryz.func69 rfl (by kernel_rfl) (by kernel_rfl) ?_; conv => whnf
  repeat' (first | ((first | (first | (with_reducible refine split_dt (by assumption) ?_) | (with_reducible refine split_df (by assumption) ?_) | (with_reducible refine split_et (by assumption) ?_) | (with_reducible refine split_ef (by assumption) ?_) | (with_reducible refine split_bt (by assumption) ?_) | (with_reducible refine split_bf (by assumption) ?_) | (with_reducible refine split_nt (by assumption) ?_) | (with_reducible refine split_nf (by assumption) ?_) | (with_reducible refine split_t (by assumption) ?_) | (with_reducible refine split_f (by assumption) ?_)) | (first | (with_reducible refine split_dec (fun h => ?_) (fun h => ?_)) | (with_reducible refine split_beq (fun h => ?_) (fun h => ?_)) | (with_reducible refine split_bne (fun h => ?_) (fun h => ?_)) | (with_reducible refine split_not (fun h => ?_) (fun h => ?_)) | (with_reducible refine split_beqS (fun h => ?_) (fun h => ?_)) | (with_reducible refine split_intro (fun h => ?_) (fun h => ?_)))) <;> conv => whnf) | ((with_reducible refine And.intro (show Tryz.prog.underlying _ = some .bool by kernel_rfl) ?_); conv => whnf))
  all_goals first
    | (refine exit_plain rfl (congrArg (fun n : Int => iv n) ?_)
       rw [no (by intro k; obtain ⟨k1, k2, k3, k4, k5⟩ := (hardA_iff a).1 k; first | omega | (exact hz.1 (by assumption) k5))]
       rfl)
    | skip
  have yes : dec (HardA a) = true := dec_true ⟨by omega, by omega, by omega, by omega, by
    apply Classical.byContradiction
    intro hn
    rw [hz.2 hn] at h; cases h⟩
  unfold hardB
  rw [yes, Bool.true_and]
  ((try ((refine Exists.intro none ?_); (conv => whnf))); first | ((with_reducible refine call_by (c_Check a.baseConf) ?_); conv => whnf))
  cases hc : confB a.baseConf
  · simp only [Bool.false_eq_true, if_false]
    conv => whnf
    exact exit_plain rfl rfl
  · simp only [if_true]
    conv => whnf
    repeat' (first | ((first | (first | (with_reducible refine split_dt (by assumption) ?_) | (with_reducible refine split_df (by assumption) ?_) | (with_reducible refine split_et (by assumption) ?_) | (with_reducible refine split_ef (by assumption) ?_) | (with_reducible refine split_bt (by assumption) ?_) | (with_reducible refine split_bf (by assumption) ?_) | (with_reducible refine split_nt (by assumption) ?_) | (with_reducible refine split_nf (by assumption) ?_) | (with_reducible refine split_t (by assumption) ?_) | (with_reducible refine split_f (by assumption) ?_)) | (first | (with_reducible refine split_dec (fun h => ?_) (fun h => ?_)) | (with_reducible refine split_beq (fun h => ?_) (fun h => ?_)) | (with_reducible refine split_bne (fun h => ?_) (fun h => ?_)) | (with_reducible refine split_not (fun h => ?_) (fun h => ?_)) | (with_reducible refine split_beqS (fun h => ?_) (fun h => ?_)) | (with_reducible refine split_intro (fun h => ?_) (fun h => ?_)))) <;> conv => whnf) | ((try ((refine Exists.intro none ?_); (conv => whnf))); first | ((with_reducible refine call_by (c_rightEntries a.log hm _ _) ?_); conv => whnf)))
    all_goals (refine exit_plain rfl (congrArg (fun n : Int => iv n) ?_))
    all_goals (try simp only [List.length_map] at *)
    all_goals (try simp_all)
    all_goals (try omega)
    all_goals (try (intro _ e; rw [e] at h; simp at h))
end Go.Proofs
