/- Contracts of functions: entries compared: the same, all NaN being one. -/
import Derived.Test.YtnphfgphajejaaaC17
import Derived.Test.YtnphfgphajejaaaC13
namespace Go.Proofs
open Go.Pv
set_option maxRecDepth 100000

theorem bl_loop (bs : ByteArray) : ∀ n i r, bs.size - i = n → ByteArray.toList.loop bs i r = r.reverse ++ bs.data.toList.drop i
  | 0, i, r, h => by
    rw [ByteArray.toList.loop, if_neg (by omega), List.drop_eq_nil_of_le (by simp only [Array.length_toList]; have : bs.data.size = bs.size := rfl; omega), List.append_nil]
  | n + 1, i, r, h => by
    have hlt : i < bs.size := by omega
    have hlt' : i < bs.data.toList.length := by simpa using hlt
    rw [ByteArray.toList.loop, if_pos hlt, bl_loop bs n (i + 1) _ (by omega), List.drop_eq_getElem_cons hlt']
    have : bs.get! i = bs.data.toList[i] := by
      show bs.data[i]! = _
      rw [getElem!_pos bs.data i hlt]; simp
    simp [this]
theorem bl_eq (bs : ByteArray) : bs.toList = bs.data.toList := by
  show ByteArray.toList.loop bs 0 [] = _
  rw [bl_loop bs _ 0 [] rfl]; simp
theorem bl_inj {a b : ByteArray} : a.toList = b.toList ↔ a = b := by
  constructor
  · intro h
    rw [bl_eq, bl_eq] at h
    exact ByteArray.ext (Array.ext' h)
  · intro h; rw [h]

theorem bl_beq (a b : ByteArray) : (a.toList == b.toList) = decide (a = b) := by
  rw [Bool.eq_iff_iff, beq_iff_eq, decide_eq_true_eq, bl_inj]

/-- A NaN. -/
def fnan (x : Nat) : Bool := FloatKind.f64.format.order x x != some .eq
abbrev theNaN : Nat := 9221120237041090561
theorem fnan_the : fnan theNaN = true := by decide +kernel
def canonF (x : Nat) : Nat := if fnan x then theNaN else x
theorem canonF_eq {a b : Nat} : canonF a = canonF b ↔ (fnan a = true ∧ fnan b = true) ∨ a = b := by
  unfold canonF
  cases ha : fnan a <;> cases hb : fnan b <;> simp
  · constructor
    · intro e; subst e; rw [fnan_the] at ha; cases ha
    · intro e; subst e; rw [ha] at hb; cases hb
  · constructor
    · intro e; subst e; rw [fnan_the] at hb; cases hb
    · intro e; subst e; rw [ha] at hb; cases hb

abbrev VVal.nrm (v : VVal) : VVal := ⟨v.kind, canonF v.num, v.text⟩
abbrev VCmd.nrm (c : VCmd) : VCmd := ⟨c.kind, c.key, c.old.nrm, c.val.nrm⟩
abbrev VCall.nrm (c : VCall) : VCall := ⟨c.client, c.seq, c.cmd.nrm⟩
abbrev Ent.nrm (x : Ent) : Ent := ⟨x.term, x.kind, x.call.nrm, x.conf⟩

theorem c_Float (a b : Nat) : Ctr Try.prog 241 [.sc (.float .f64 a), .sc (.float .f64 b)] (bv (decide (canonF a = canonF b))) [] := by
  refine spec_of_body mixed Try.func241 rfl (by kernel_rfl) (by kernel_rfl) ?_; conv => whnf
  ((first | (with_reducible refine split_dec (fun h => ?_) (fun h => ?_)) | (with_reducible refine split_beq (fun h => ?_) (fun h => ?_)) | (with_reducible refine split_bne (fun h => ?_) (fun h => ?_)) | (with_reducible refine split_not (fun h => ?_) (fun h => ?_)) | (with_reducible refine split_beqS (fun h => ?_) (fun h => ?_)) | (with_reducible refine split_intro (fun h => ?_) (fun h => ?_))) <;> conv => whnf)
  · have ha : fnan a = true := h
    ((first | (with_reducible refine split_dec (fun h => ?_) (fun h => ?_)) | (with_reducible refine split_beq (fun h => ?_) (fun h => ?_)) | (with_reducible refine split_bne (fun h => ?_) (fun h => ?_)) | (with_reducible refine split_not (fun h => ?_) (fun h => ?_)) | (with_reducible refine split_beqS (fun h => ?_) (fun h => ?_)) | (with_reducible refine split_intro (fun h => ?_) (fun h => ?_))) <;> conv => whnf)
    · have hb : fnan b = true := h
      exact exit_plain rfl (by rw [decide_eq_true (canonF_eq.2 (.inl ⟨ha, hb⟩))])
    · have hb : fnan b = false := h
      ((try ((refine Exists.intro none ?_); (conv => whnf))); first | ((with_reducible refine call_by (c_bits a) ?_); conv => whnf))
      ((try ((refine Exists.intro none ?_); (conv => whnf))); first | ((with_reducible refine call_by (c_bits b) ?_); conv => whnf))
      refine exit_plain rfl ?_
      have e : (canonF a = canonF b) ↔ ((a : Int) = (b : Int)) := by rw [canonF_eq, hb]; simp; omega
      show bv ((a : Int) == (b : Int)) = _
      rw [decide_eq_decide.2 e]; rfl
  · have ha : fnan a = false := h
    ((try ((refine Exists.intro none ?_); (conv => whnf))); first | ((with_reducible refine call_by (c_bits a) ?_); conv => whnf))
    ((try ((refine Exists.intro none ?_); (conv => whnf))); first | ((with_reducible refine call_by (c_bits b) ?_); conv => whnf))
    refine exit_plain rfl ?_
    have e : (canonF a = canonF b) ↔ ((a : Int) = (b : Int)) := by rw [canonF_eq, ha]; simp; omega
    show bv ((a : Int) == (b : Int)) = _
    rw [decide_eq_decide.2 e]; rfl

theorem VVal.nrm_eq {a b : VVal} : a.nrm = b.nrm ↔ a.kind = b.kind ∧ canonF a.num = canonF b.num ∧ a.text = b.text := by
  cases a; cases b; simp [VVal.nrm]
theorem VVal.nrm_dec (a b : VVal) : decide (a.nrm = b.nrm) = decide (a.kind = b.kind ∧ canonF a.num = canonF b.num ∧ a.text = b.text) := decide_eq_decide.2 VVal.nrm_eq
theorem VCmd.nrm_eq {a b : VCmd} : a.nrm = b.nrm ↔ a.kind = b.kind ∧ a.key = b.key ∧ a.old.nrm = b.old.nrm ∧ a.val.nrm = b.val.nrm := by
  cases a; cases b; simp [VCmd.nrm]
theorem VCmd.nrm_dec (a b : VCmd) : decide (a.nrm = b.nrm) = decide (a.kind = b.kind ∧ a.key = b.key ∧ a.old.nrm = b.old.nrm ∧ a.val.nrm = b.val.nrm) := decide_eq_decide.2 VCmd.nrm_eq
theorem VCall.nrm_eq {a b : VCall} : a.nrm = b.nrm ↔ a.client = b.client ∧ a.seq = b.seq ∧ a.cmd.nrm = b.cmd.nrm := by
  cases a; cases b; simp [VCall.nrm]
theorem VCall.nrm_dec (a b : VCall) : decide (a.nrm = b.nrm) = decide (a.client = b.client ∧ a.seq = b.seq ∧ a.cmd.nrm = b.cmd.nrm) := decide_eq_decide.2 VCall.nrm_eq
theorem Ent.nrm_eq {a b : Ent} : a.nrm = b.nrm ↔ a.term = b.term ∧ a.kind = b.kind ∧ a.call.nrm = b.call.nrm ∧ a.conf = b.conf := by
  cases a; cases b; simp [Ent.nrm]
theorem Ent.nrm_dec (a b : Ent) : decide (a.nrm = b.nrm) = decide (a.term = b.term ∧ a.kind = b.kind ∧ a.call.nrm = b.call.nrm ∧ a.conf = b.conf) := decide_eq_decide.2 Ent.nrm_eq

theorem c_kValue (a b : VVal) : Ctr Try.prog 229 [.ag a.enc, .ag b.enc] (bv (decide (a.nrm = b.nrm))) [] := by
  rw [VVal.nrm_dec]
  refine spec_of_body mixed Try.func229 rfl (by kernel_rfl) (by kernel_rfl) ?_; conv => whnf
  repeat' (first | ((first | (with_reducible refine split_dec (fun h => ?_) (fun h => ?_)) | (with_reducible refine split_beq (fun h => ?_) (fun h => ?_)) | (with_reducible refine split_bne (fun h => ?_) (fun h => ?_)) | (with_reducible refine split_not (fun h => ?_) (fun h => ?_)) | (with_reducible refine split_beqS (fun h => ?_) (fun h => ?_)) | (with_reducible refine split_intro (fun h => ?_) (fun h => ?_))) <;> conv => whnf) | ((try ((refine Exists.intro none ?_); (conv => whnf))); first | ((with_reducible refine call_by (c_Float a.num b.num) ?_); conv => whnf)))
  all_goals (refine exit_plain rfl ?_)
  all_goals simp_all [bl_inj, bl_beq]
theorem c_kCmd (a b : VCmd) : Ctr Try.prog 204 [.ag a.enc, .ag b.enc] (bv (decide (a.nrm = b.nrm))) [] := by
  rw [VCmd.nrm_dec]
  refine spec_of_body mixed Try.func204 rfl (by kernel_rfl) (by kernel_rfl) ?_; conv => whnf
  repeat' (first | ((first | (with_reducible refine split_dec (fun h => ?_) (fun h => ?_)) | (with_reducible refine split_beq (fun h => ?_) (fun h => ?_)) | (with_reducible refine split_bne (fun h => ?_) (fun h => ?_)) | (with_reducible refine split_not (fun h => ?_) (fun h => ?_)) | (with_reducible refine split_beqS (fun h => ?_) (fun h => ?_)) | (with_reducible refine split_intro (fun h => ?_) (fun h => ?_))) <;> conv => whnf) | ((try ((refine Exists.intro none ?_); (conv => whnf))); first | ((with_reducible refine call_by (c_kValue a.old b.old) ?_); conv => whnf) | ((with_reducible refine call_by (c_kValue a.val b.val) ?_); conv => whnf)))
  all_goals (refine exit_plain rfl ?_)
  all_goals simp_all [bl_inj, bl_beq]
theorem c_kCall (a b : VCall) : Ctr Try.prog 116 [.ag a.enc, .ag b.enc] (bv (decide (a.nrm = b.nrm))) [] := by
  rw [VCall.nrm_dec]
  refine spec_of_body mixed Try.func116 rfl (by kernel_rfl) (by kernel_rfl) ?_; conv => whnf
  repeat' (first | ((first | (with_reducible refine split_dec (fun h => ?_) (fun h => ?_)) | (with_reducible refine split_beq (fun h => ?_) (fun h => ?_)) | (with_reducible refine split_bne (fun h => ?_) (fun h => ?_)) | (with_reducible refine split_not (fun h => ?_) (fun h => ?_)) | (with_reducible refine split_beqS (fun h => ?_) (fun h => ?_)) | (with_reducible refine split_intro (fun h => ?_) (fun h => ?_))) <;> conv => whnf) | ((try ((refine Exists.intro none ?_); (conv => whnf))); first | ((with_reducible refine call_by (c_kCmd a.cmd b.cmd) ?_); conv => whnf)))
  all_goals (refine exit_plain rfl ?_)
  all_goals simp_all
theorem c_kEntry (a b : Ent) : Ctr Try.prog 92 [.ag a.enc, .ag b.enc] (bv (decide (a.nrm = b.nrm))) [] := by
  rw [Ent.nrm_dec]
  refine spec_of_body mixed Try.func92 rfl (by kernel_rfl) (by kernel_rfl) ?_; conv => whnf
  repeat' (first | ((first | (with_reducible refine split_dec (fun h => ?_) (fun h => ?_)) | (with_reducible refine split_beq (fun h => ?_) (fun h => ?_)) | (with_reducible refine split_bne (fun h => ?_) (fun h => ?_)) | (with_reducible refine split_not (fun h => ?_) (fun h => ?_)) | (with_reducible refine split_beqS (fun h => ?_) (fun h => ?_)) | (with_reducible refine split_intro (fun h => ?_) (fun h => ?_))) <;> conv => whnf) | ((try ((refine Exists.intro none ?_); (conv => whnf))); first | ((with_reducible refine call_by (c_kCall a.call b.call) ?_); conv => whnf) | ((with_reducible refine call_by (c_kConf a.conf b.conf) ?_); conv => whnf)))
  all_goals (refine exit_plain rfl ?_)
  all_goals simp_all

/-! The program's own. -/
theorem c_IsNaN (x : Nat) : Ctr Try.prog 247 [.sc (.float .f64 x)] (bv (fnan x)) [] := by
  refine spec_of_body mixed Try.func247 rfl (by kernel_rfl) (by kernel_rfl) ?_; conv => whnf
  exact exit_plain rfl rfl
theorem c_frombits (x : Nat) (h : x < 18446744073709551616) : Ctr Try.prog 244 [.sc (.int .u64 x)] (.sc (.float .f64 x)) [] := by
  refine ctr_extern (e := Go.Extern.MathFloatBits.float64frombits) Try.func244 (by kernel_rfl) (by kernel_rfl) (by kernel_rfl) (by kernel_rfl) ?_
  intro w M vs hv
  simp only [RVL, RV] at hv
  obtain ⟨c, r, rfl, rfl, rfl⟩ := hv
  rfl
theorem c_nan : Ctr Try.prog 248 [] (.sc (.float .f64 theNaN)) [] := by
  have h := c_frombits theNaN (by decide)
  refine spec_of_body mixed Try.func248 rfl (by kernel_rfl) (by kernel_rfl) ?_; conv => whnf
  ((try ((refine Exists.intro none ?_); (conv => whnf))); first | ((with_reducible refine call_by (h) ?_); conv => whnf))
  exact exit_plain rfl rfl
theorem c_Canon (x : Nat) : Ctr Try.prog 243 [.sc (.float .f64 x)] (.sc (.float .f64 (canonF x))) [] := by
  refine spec_of_body mixed Try.func243 rfl (by kernel_rfl) (by kernel_rfl) ?_; conv => whnf
  ((try ((refine Exists.intro none ?_); (conv => whnf))); first | ((with_reducible refine call_by (c_IsNaN x) ?_); conv => whnf))
  ((first | (with_reducible refine split_dec (fun h => ?_) (fun h => ?_)) | (with_reducible refine split_beq (fun h => ?_) (fun h => ?_)) | (with_reducible refine split_bne (fun h => ?_) (fun h => ?_)) | (with_reducible refine split_not (fun h => ?_) (fun h => ?_)) | (with_reducible refine split_beqS (fun h => ?_) (fun h => ?_)) | (with_reducible refine split_intro (fun h => ?_) (fun h => ?_))) <;> conv => whnf)
  · ((try ((refine Exists.intro none ?_); (conv => whnf))); first | ((with_reducible refine call_by (c_nan) ?_); conv => whnf))
    exact exit_plain rfl (by simp [canonF, h])
  · exact exit_plain rfl (by simp [canonF, h])
theorem c_nSame (a b : Nat) : Ctr Try.prog 232 [.sc (.float .f64 a), .sc (.float .f64 b)] (bv (decide (canonF a = canonF b))) [] := by
  refine spec_of_body mixed Try.func232 rfl (by kernel_rfl) (by kernel_rfl) ?_; conv => whnf
  ((try ((refine Exists.intro none ?_); (conv => whnf))); first | ((with_reducible refine call_by (c_Canon a) ?_); conv => whnf))
  ((try ((refine Exists.intro none ?_); (conv => whnf))); first | ((with_reducible refine call_by (c_bits (canonF a)) ?_); conv => whnf))
  ((try ((refine Exists.intro none ?_); (conv => whnf))); first | ((with_reducible refine call_by (c_Canon b) ?_); conv => whnf))
  ((try ((refine Exists.intro none ?_); (conv => whnf))); first | ((with_reducible refine call_by (c_bits (canonF b)) ?_); conv => whnf))
  refine exit_plain rfl ?_
  show bv ((canonF a : Int) == (canonF b : Int)) = _
  have e : (canonF a = canonF b) ↔ ((canonF a : Int) = (canonF b : Int)) := by omega
  rw [decide_eq_decide.2 e]; rfl
theorem c_vSame (a b : VVal) : Ctr Try.prog 221 [.ag a.enc, .ag b.enc] (bv (decide (a.nrm = b.nrm))) [] := by
  rw [VVal.nrm_dec]
  refine spec_of_body mixed Try.func221 rfl (by kernel_rfl) (by kernel_rfl) ?_; conv => whnf
  repeat' (first | ((first | (with_reducible refine split_dec (fun h => ?_) (fun h => ?_)) | (with_reducible refine split_beq (fun h => ?_) (fun h => ?_)) | (with_reducible refine split_bne (fun h => ?_) (fun h => ?_)) | (with_reducible refine split_not (fun h => ?_) (fun h => ?_)) | (with_reducible refine split_beqS (fun h => ?_) (fun h => ?_)) | (with_reducible refine split_intro (fun h => ?_) (fun h => ?_))) <;> conv => whnf) | ((try ((refine Exists.intro none ?_); (conv => whnf))); first | ((with_reducible refine call_by (c_nSame a.num b.num) ?_); conv => whnf)))
  all_goals (refine exit_plain rfl ?_)
  all_goals simp_all [bl_inj, bl_beq]
theorem Ent.nrm_eq' {a b : Ent} : a.nrm = b.nrm ↔ a.term = b.term ∧ a.kind = b.kind ∧ a.conf = b.conf ∧ a.call.client = b.call.client ∧ a.call.seq = b.call.seq ∧ a.call.cmd.kind = b.call.cmd.kind ∧ a.call.cmd.key = b.call.cmd.key ∧ a.call.cmd.old.nrm = b.call.cmd.old.nrm ∧ a.call.cmd.val.nrm = b.call.cmd.val.nrm := by
  rw [Ent.nrm_eq, VCall.nrm_eq, VCmd.nrm_eq]
  constructor
  · rintro ⟨h1, h2, ⟨h3, h4, h5, h6, h7, h8⟩, h9⟩; exact ⟨h1, h2, h9, h3, h4, h5, h6, h7, h8⟩
  · rintro ⟨h1, h2, h9, h3, h4, h5, h6, h7, h8⟩; exact ⟨h1, h2, ⟨h3, h4, h5, h6, h7, h8⟩, h9⟩
theorem Ent.nrm_dec' (a b : Ent) : decide (a.nrm = b.nrm) = decide (a.term = b.term ∧ a.kind = b.kind ∧ a.conf = b.conf ∧ a.call.client = b.call.client ∧ a.call.seq = b.call.seq ∧ a.call.cmd.kind = b.call.cmd.kind ∧ a.call.cmd.key = b.call.cmd.key ∧ a.call.cmd.old.nrm = b.call.cmd.old.nrm ∧ a.call.cmd.val.nrm = b.call.cmd.val.nrm) := decide_eq_decide.2 Ent.nrm_eq'
set_option maxHeartbeats 1000000 in
theorem c_same (a b : Ent) : Ctr Try.prog 180 [.ag a.enc, .ag b.enc] (bv (decide (a.nrm = b.nrm))) [] := by
  rw [Ent.nrm_dec']
  refine spec_of_body mixed Try.func180 rfl (by kernel_rfl) (by kernel_rfl) ?_; conv => whnf
  repeat' (first | ((first | (with_reducible refine split_dec (fun h => ?_) (fun h => ?_)) | (with_reducible refine split_beq (fun h => ?_) (fun h => ?_)) | (with_reducible refine split_bne (fun h => ?_) (fun h => ?_)) | (with_reducible refine split_not (fun h => ?_) (fun h => ?_)) | (with_reducible refine split_beqS (fun h => ?_) (fun h => ?_)) | (with_reducible refine split_intro (fun h => ?_) (fun h => ?_))) <;> conv => whnf) | ((try ((refine Exists.intro none ?_); (conv => whnf))); first | ((with_reducible refine call_by (c_vSame a.call.cmd.old b.call.cmd.old) ?_); conv => whnf) | ((with_reducible refine call_by (c_vSame a.call.cmd.val b.call.cmd.val) ?_); conv => whnf)) | (refine ⟨eqOk23, _, eqConf a.conf b.conf, ?_⟩; conv => whnf))
  all_goals (refine exit_plain rfl ?_)
  all_goals simp_all [bl_inj, bl_beq]
end Go.Proofs
