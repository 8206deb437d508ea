/- Contracts of functions: whether a replica is right, by the page. (genQ2.py prints this) -/
import Derived.Test.YtbhfokahocgndaaGreatQ1
set_option linter.unusedSimpArgs false
set_option linter.unusedVariables false
namespace Go.Proofs
open Go.Pv
set_option maxRecDepth 100000

theorem withinB_inR (x g : Int) : withinB x 0 g = inR g x := by
  unfold withinB inR
  rw [Bool.eq_iff_iff]
  simp only [Bool.and_eq_true, decide_eq_true_eq]
theorem lead_in (x : Int) : decide (-1 ≤ x ∧ x ≤ 6) = (decide (-1 ≤ x) && decide (x < 7)) := by
  rw [Bool.eq_iff_iff]
  simp only [Bool.and_eq_true, decide_eq_true_eq]
  omega
theorem com_in (x a b : Int) : decide (a ≤ x ∧ x ≤ b) = (decide (a ≤ x) && decide (x ≤ b)) := by
  rw [Bool.eq_iff_iff]
  simp only [Bool.and_eq_true, decide_eq_true_eq]
set_option maxHeartbeats 8000000 in
theorem c_rRight (r : Rft) (hm : r.hard.log.length ≤ maxLen) (hm2 : r.reads.length ≤ maxLen) : Ctr Tryz.prog 7 [.ag r.enc] (bv (rightB r)) [] := by
  have hm' : r.reads.length ≤ 9223372036854775807 := Nat.le_trans hm2 (by decide)
  have k1 := c_Node r.id
  have k0 := c_rHard r.hard hm
  have kl := c_rLast r.hard hm
  have k2 := c_within16 r.commit r.hard.base (lastI r.hard)
  have k3 := c_within16 r.role 0 3
  have k4 := c_within16 r.lead (-1) 6
  have k5 := c_within16 r.wait 0 100
  have k6 := c_within16 r.quiet 0 far
  have k7 := c_within16 r.round 0 far
  have k8 := c_Bits r.votes
  rw [withinB_inR] at k1 k8
  have n0 := c_within16 r.next.a0 0 far
  have m0 := c_within16 r.mtch.a0 0 (lastI r.hard)
  have s0 := c_within16 r.silent.a0 0 far
  have n1 := c_within16 r.next.a1 0 far
  have m1 := c_within16 r.mtch.a1 0 (lastI r.hard)
  have s1 := c_within16 r.silent.a1 0 far
  have n2 := c_within16 r.next.a2 0 far
  have m2 := c_within16 r.mtch.a2 0 (lastI r.hard)
  have s2 := c_within16 r.silent.a2 0 far
  have n3 := c_within16 r.next.a3 0 far
  have m3 := c_within16 r.mtch.a3 0 (lastI r.hard)
  have s3 := c_within16 r.silent.a3 0 far
  have n4 := c_within16 r.next.a4 0 far
  have m4 := c_within16 r.mtch.a4 0 (lastI r.hard)
  have s4 := c_within16 r.silent.a4 0 far
  have n5 := c_within16 r.next.a5 0 far
  have m5 := c_within16 r.mtch.a5 0 (lastI r.hard)
  have s5 := c_within16 r.silent.a5 0 far
  have n6 := c_within16 r.next.a6 0 far
  have m6 := c_within16 r.mtch.a6 0 (lastI r.hard)
  have s6 := c_within16 r.silent.a6 0 far
  have kw := fun x : Rd => c_rCall x.call
  have hR : rightB r = (inR 6 r.id && (hardB r.hard && (decide (r.hard.base ≤ r.commit ∧ r.commit ≤ lastI r.hard) && (inR 3 r.role && (decide (-1 ≤ r.lead ∧ r.lead ≤ 6) && (inR 100 r.wait && (inR far r.quiet && (inR far r.round && (inR 127 r.votes && ((arrR far r.next && (arrR (lastI r.hard) r.mtch && arrR far r.silent)) && ((if r.role = 3 then decide (r.lead = r.id) else true) && rdsB r))))))))))) := by
    unfold rightB
    rw [lead_in, com_in]
    generalize (if r.role = 3 then decide (r.lead = r.id) else true) = z1
    generalize rdsB r = z2
    generalize arrR far r.next = z3
    generalize arrR (lastI r.hard) r.mtch = z4
    generalize arrR far r.silent = z5
    simp only [Bool.and_assoc, Bool.and_comm, Bool.and_left_comm]
  rw [hR]
  clear hR
  unfold arrR
  change Ctr Tryz.prog 35 [iv r.role, iv 0, iv 3] (bv (inR 3 r.role)) [] at k3
  change Ctr Tryz.prog 35 [iv r.wait, iv 0, iv 100] (bv (inR 100 r.wait)) [] at k5
  change Ctr Tryz.prog 35 [iv r.quiet, iv 0, iv far] (bv (inR far r.quiet)) [] at k6
  change Ctr Tryz.prog 35 [iv r.round, iv 0, iv far] (bv (inR far r.round)) [] at k7
  change Ctr Tryz.prog 35 [iv r.next.a0, iv 0, iv far] (bv (inR far r.next.a0)) [] at n0
  change Ctr Tryz.prog 35 [iv r.mtch.a0, iv 0, iv (lastI r.hard)] (bv (inR (lastI r.hard) r.mtch.a0)) [] at m0
  change Ctr Tryz.prog 35 [iv r.silent.a0, iv 0, iv far] (bv (inR far r.silent.a0)) [] at s0
  change Ctr Tryz.prog 35 [iv r.next.a1, iv 0, iv far] (bv (inR far r.next.a1)) [] at n1
  change Ctr Tryz.prog 35 [iv r.mtch.a1, iv 0, iv (lastI r.hard)] (bv (inR (lastI r.hard) r.mtch.a1)) [] at m1
  change Ctr Tryz.prog 35 [iv r.silent.a1, iv 0, iv far] (bv (inR far r.silent.a1)) [] at s1
  change Ctr Tryz.prog 35 [iv r.next.a2, iv 0, iv far] (bv (inR far r.next.a2)) [] at n2
  change Ctr Tryz.prog 35 [iv r.mtch.a2, iv 0, iv (lastI r.hard)] (bv (inR (lastI r.hard) r.mtch.a2)) [] at m2
  change Ctr Tryz.prog 35 [iv r.silent.a2, iv 0, iv far] (bv (inR far r.silent.a2)) [] at s2
  change Ctr Tryz.prog 35 [iv r.next.a3, iv 0, iv far] (bv (inR far r.next.a3)) [] at n3
  change Ctr Tryz.prog 35 [iv r.mtch.a3, iv 0, iv (lastI r.hard)] (bv (inR (lastI r.hard) r.mtch.a3)) [] at m3
  change Ctr Tryz.prog 35 [iv r.silent.a3, iv 0, iv far] (bv (inR far r.silent.a3)) [] at s3
  change Ctr Tryz.prog 35 [iv r.next.a4, iv 0, iv far] (bv (inR far r.next.a4)) [] at n4
  change Ctr Tryz.prog 35 [iv r.mtch.a4, iv 0, iv (lastI r.hard)] (bv (inR (lastI r.hard) r.mtch.a4)) [] at m4
  change Ctr Tryz.prog 35 [iv r.silent.a4, iv 0, iv far] (bv (inR far r.silent.a4)) [] at s4
  change Ctr Tryz.prog 35 [iv r.next.a5, iv 0, iv far] (bv (inR far r.next.a5)) [] at n5
  change Ctr Tryz.prog 35 [iv r.mtch.a5, iv 0, iv (lastI r.hard)] (bv (inR (lastI r.hard) r.mtch.a5)) [] at m5
  change Ctr Tryz.prog 35 [iv r.silent.a5, iv 0, iv far] (bv (inR far r.silent.a5)) [] at s5
  change Ctr Tryz.prog 35 [iv r.next.a6, iv 0, iv far] (bv (inR far r.next.a6)) [] at n6
  change Ctr Tryz.prog 35 [iv r.mtch.a6, iv 0, iv (lastI r.hard)] (bv (inR (lastI r.hard) r.mtch.a6)) [] at m6
  change Ctr Tryz.prog 35 [iv r.silent.a6, iv 0, iv far] (bv (inR far r.silent.a6)) [] at s6
  generalize lastI r.hard = li at *
  generalize hardB r.hard = b0 at *
  generalize inR 6 r.id = b1 at *
  generalize decide (r.hard.base ≤ r.commit ∧ r.commit ≤ li) = b2 at *
  generalize inR 3 r.role = b3 at *
  generalize decide (-1 ≤ r.lead ∧ r.lead ≤ 6) = b4 at *
  generalize inR 100 r.wait = b5 at *
  generalize inR far r.quiet = b6 at *
  generalize inR far r.round = b7 at *
  generalize inR 127 r.votes = b8 at *
  generalize inR far r.next.a0 = p0 at *
  generalize inR li r.mtch.a0 = q0 at *
  generalize inR far r.silent.a0 = t0 at *
  generalize inR far r.next.a1 = p1 at *
  generalize inR li r.mtch.a1 = q1 at *
  generalize inR far r.silent.a1 = t1 at *
  generalize inR far r.next.a2 = p2 at *
  generalize inR li r.mtch.a2 = q2 at *
  generalize inR far r.silent.a2 = t2 at *
  generalize inR far r.next.a3 = p3 at *
  generalize inR li r.mtch.a3 = q3 at *
  generalize inR far r.silent.a3 = t3 at *
  generalize inR far r.next.a4 = p4 at *
  generalize inR li r.mtch.a4 = q4 at *
  generalize inR far r.silent.a4 = t4 at *
  generalize inR far r.next.a5 = p5 at *
  generalize inR li r.mtch.a5 = q5 at *
  generalize inR far r.silent.a5 = t5 at *
  generalize inR far r.next.a6 = p6 at *
  generalize inR li r.mtch.a6 = q6 at *
  generalize inR far r.silent.a6 = t6 at *
  refine spec_of_body mixed Tryz.func7 rfl (by kernel_rfl) (by kernel_rfl) ?_; conv => whnf
  cases b1 with
  | false =>
    ((try ((refine Exists.intro none ?_); (conv => whnf))); first | ((with_reducible refine call_by (k1) ?_); conv => whnf))
    exact exit_plain rfl (by simp)
  | true =>
  ((try ((refine Exists.intro none ?_); (conv => whnf))); first | ((with_reducible refine call_by (k1) ?_); conv => whnf))
  cases b0 with
  | false =>
    ((try ((refine Exists.intro none ?_); (conv => whnf))); first | ((with_reducible refine call_by (k0) ?_); conv => whnf))
    exact exit_plain rfl (by simp)
  | true =>
  ((try ((refine Exists.intro none ?_); (conv => whnf))); first | ((with_reducible refine call_by (k0) ?_); conv => whnf))
  ((try ((refine Exists.intro none ?_); (conv => whnf))); first | ((with_reducible refine call_by (kl) ?_); conv => whnf))
  cases b2 with
  | false =>
    ((try ((refine Exists.intro none ?_); (conv => whnf))); first | ((with_reducible refine call_by (k2) ?_); conv => whnf))
    exact exit_plain rfl (by simp)
  | true =>
  ((try ((refine Exists.intro none ?_); (conv => whnf))); first | ((with_reducible refine call_by (k2) ?_); conv => whnf))
  cases b3 with
  | false =>
    ((try ((refine Exists.intro none ?_); (conv => whnf))); first | ((with_reducible refine call_by (k3) ?_); conv => whnf))
    exact exit_plain rfl (by simp)
  | true =>
  ((try ((refine Exists.intro none ?_); (conv => whnf))); first | ((with_reducible refine call_by (k3) ?_); conv => whnf))
  cases b4 with
  | false =>
    ((try ((refine Exists.intro none ?_); (conv => whnf))); first | ((with_reducible refine call_by (k4) ?_); conv => whnf))
    exact exit_plain rfl (by simp)
  | true =>
  ((try ((refine Exists.intro none ?_); (conv => whnf))); first | ((with_reducible refine call_by (k4) ?_); conv => whnf))
  cases b5 with
  | false =>
    ((try ((refine Exists.intro none ?_); (conv => whnf))); first | ((with_reducible refine call_by (k5) ?_); conv => whnf))
    exact exit_plain rfl (by simp)
  | true =>
  ((try ((refine Exists.intro none ?_); (conv => whnf))); first | ((with_reducible refine call_by (k5) ?_); conv => whnf))
  cases b6 with
  | false =>
    ((try ((refine Exists.intro none ?_); (conv => whnf))); first | ((with_reducible refine call_by (k6) ?_); conv => whnf))
    exact exit_plain rfl (by simp)
  | true =>
  ((try ((refine Exists.intro none ?_); (conv => whnf))); first | ((with_reducible refine call_by (k6) ?_); conv => whnf))
  cases b7 with
  | false =>
    ((try ((refine Exists.intro none ?_); (conv => whnf))); first | ((with_reducible refine call_by (k7) ?_); conv => whnf))
    exact exit_plain rfl (by simp)
  | true =>
  ((try ((refine Exists.intro none ?_); (conv => whnf))); first | ((with_reducible refine call_by (k7) ?_); conv => whnf))
  cases b8 with
  | false =>
    ((try ((refine Exists.intro none ?_); (conv => whnf))); first | ((with_reducible refine call_by (k8) ?_); conv => whnf))
    exact exit_plain rfl (by simp)
  | true =>
  ((try ((refine Exists.intro none ?_); (conv => whnf))); first | ((with_reducible refine call_by (k8) ?_); conv => whnf))
  refine tri_rounds mixed (by kernel_rfl) 8 ?_
  conv => whnf
  refine ⟨⟨by decide, by decide⟩, ?_⟩
  conv => whnf
  cases p0 with
  | false =>
    ((try ((refine Exists.intro none ?_); (conv => whnf))); first | ((with_reducible refine call_by (n0) ?_); conv => whnf))
    exact exit_plain rfl (by simp)
  | true =>
  ((try ((refine Exists.intro none ?_); (conv => whnf))); first | ((with_reducible refine call_by (n0) ?_); conv => whnf))
  refine ⟨⟨by decide, by decide⟩, ?_⟩
  conv => whnf
  cases q0 with
  | false =>
    ((try ((refine Exists.intro none ?_); (conv => whnf))); first | ((with_reducible refine call_by (m0) ?_); conv => whnf))
    exact exit_plain rfl (by simp)
  | true =>
  ((try ((refine Exists.intro none ?_); (conv => whnf))); first | ((with_reducible refine call_by (m0) ?_); conv => whnf))
  refine ⟨⟨by decide, by decide⟩, ?_⟩
  conv => whnf
  cases t0 with
  | false =>
    ((try ((refine Exists.intro none ?_); (conv => whnf))); first | ((with_reducible refine call_by (s0) ?_); conv => whnf))
    exact exit_plain rfl (by simp)
  | true =>
  ((try ((refine Exists.intro none ?_); (conv => whnf))); first | ((with_reducible refine call_by (s0) ?_); conv => whnf))
  refine ⟨⟨by decide, by decide⟩, ?_⟩
  conv => whnf
  cases p1 with
  | false =>
    ((try ((refine Exists.intro none ?_); (conv => whnf))); first | ((with_reducible refine call_by (n1) ?_); conv => whnf))
    exact exit_plain rfl (by simp)
  | true =>
  ((try ((refine Exists.intro none ?_); (conv => whnf))); first | ((with_reducible refine call_by (n1) ?_); conv => whnf))
  refine ⟨⟨by decide, by decide⟩, ?_⟩
  conv => whnf
  cases q1 with
  | false =>
    ((try ((refine Exists.intro none ?_); (conv => whnf))); first | ((with_reducible refine call_by (m1) ?_); conv => whnf))
    exact exit_plain rfl (by simp)
  | true =>
  ((try ((refine Exists.intro none ?_); (conv => whnf))); first | ((with_reducible refine call_by (m1) ?_); conv => whnf))
  refine ⟨⟨by decide, by decide⟩, ?_⟩
  conv => whnf
  cases t1 with
  | false =>
    ((try ((refine Exists.intro none ?_); (conv => whnf))); first | ((with_reducible refine call_by (s1) ?_); conv => whnf))
    exact exit_plain rfl (by simp)
  | true =>
  ((try ((refine Exists.intro none ?_); (conv => whnf))); first | ((with_reducible refine call_by (s1) ?_); conv => whnf))
  refine ⟨⟨by decide, by decide⟩, ?_⟩
  conv => whnf
  cases p2 with
  | false =>
    ((try ((refine Exists.intro none ?_); (conv => whnf))); first | ((with_reducible refine call_by (n2) ?_); conv => whnf))
    exact exit_plain rfl (by simp)
  | true =>
  ((try ((refine Exists.intro none ?_); (conv => whnf))); first | ((with_reducible refine call_by (n2) ?_); conv => whnf))
  refine ⟨⟨by decide, by decide⟩, ?_⟩
  conv => whnf
  cases q2 with
  | false =>
    ((try ((refine Exists.intro none ?_); (conv => whnf))); first | ((with_reducible refine call_by (m2) ?_); conv => whnf))
    exact exit_plain rfl (by simp)
  | true =>
  ((try ((refine Exists.intro none ?_); (conv => whnf))); first | ((with_reducible refine call_by (m2) ?_); conv => whnf))
  refine ⟨⟨by decide, by decide⟩, ?_⟩
  conv => whnf
  cases t2 with
  | false =>
    ((try ((refine Exists.intro none ?_); (conv => whnf))); first | ((with_reducible refine call_by (s2) ?_); conv => whnf))
    exact exit_plain rfl (by simp)
  | true =>
  ((try ((refine Exists.intro none ?_); (conv => whnf))); first | ((with_reducible refine call_by (s2) ?_); conv => whnf))
  refine ⟨⟨by decide, by decide⟩, ?_⟩
  conv => whnf
  cases p3 with
  | false =>
    ((try ((refine Exists.intro none ?_); (conv => whnf))); first | ((with_reducible refine call_by (n3) ?_); conv => whnf))
    exact exit_plain rfl (by simp)
  | true =>
  ((try ((refine Exists.intro none ?_); (conv => whnf))); first | ((with_reducible refine call_by (n3) ?_); conv => whnf))
  refine ⟨⟨by decide, by decide⟩, ?_⟩
  conv => whnf
  cases q3 with
  | false =>
    ((try ((refine Exists.intro none ?_); (conv => whnf))); first | ((with_reducible refine call_by (m3) ?_); conv => whnf))
    exact exit_plain rfl (by simp)
  | true =>
  ((try ((refine Exists.intro none ?_); (conv => whnf))); first | ((with_reducible refine call_by (m3) ?_); conv => whnf))
  refine ⟨⟨by decide, by decide⟩, ?_⟩
  conv => whnf
  cases t3 with
  | false =>
    ((try ((refine Exists.intro none ?_); (conv => whnf))); first | ((with_reducible refine call_by (s3) ?_); conv => whnf))
    exact exit_plain rfl (by simp)
  | true =>
  ((try ((refine Exists.intro none ?_); (conv => whnf))); first | ((with_reducible refine call_by (s3) ?_); conv => whnf))
  refine ⟨⟨by decide, by decide⟩, ?_⟩
  conv => whnf
  cases p4 with
  | false =>
    ((try ((refine Exists.intro none ?_); (conv => whnf))); first | ((with_reducible refine call_by (n4) ?_); conv => whnf))
    exact exit_plain rfl (by simp)
  | true =>
  ((try ((refine Exists.intro none ?_); (conv => whnf))); first | ((with_reducible refine call_by (n4) ?_); conv => whnf))
  refine ⟨⟨by decide, by decide⟩, ?_⟩
  conv => whnf
  cases q4 with
  | false =>
    ((try ((refine Exists.intro none ?_); (conv => whnf))); first | ((with_reducible refine call_by (m4) ?_); conv => whnf))
    exact exit_plain rfl (by simp)
  | true =>
  ((try ((refine Exists.intro none ?_); (conv => whnf))); first | ((with_reducible refine call_by (m4) ?_); conv => whnf))
  refine ⟨⟨by decide, by decide⟩, ?_⟩
  conv => whnf
  cases t4 with
  | false =>
    ((try ((refine Exists.intro none ?_); (conv => whnf))); first | ((with_reducible refine call_by (s4) ?_); conv => whnf))
    exact exit_plain rfl (by simp)
  | true =>
  ((try ((refine Exists.intro none ?_); (conv => whnf))); first | ((with_reducible refine call_by (s4) ?_); conv => whnf))
  refine ⟨⟨by decide, by decide⟩, ?_⟩
  conv => whnf
  cases p5 with
  | false =>
    ((try ((refine Exists.intro none ?_); (conv => whnf))); first | ((with_reducible refine call_by (n5) ?_); conv => whnf))
    exact exit_plain rfl (by simp)
  | true =>
  ((try ((refine Exists.intro none ?_); (conv => whnf))); first | ((with_reducible refine call_by (n5) ?_); conv => whnf))
  refine ⟨⟨by decide, by decide⟩, ?_⟩
  conv => whnf
  cases q5 with
  | false =>
    ((try ((refine Exists.intro none ?_); (conv => whnf))); first | ((with_reducible refine call_by (m5) ?_); conv => whnf))
    exact exit_plain rfl (by simp)
  | true =>
  ((try ((refine Exists.intro none ?_); (conv => whnf))); first | ((with_reducible refine call_by (m5) ?_); conv => whnf))
  refine ⟨⟨by decide, by decide⟩, ?_⟩
  conv => whnf
  cases t5 with
  | false =>
    ((try ((refine Exists.intro none ?_); (conv => whnf))); first | ((with_reducible refine call_by (s5) ?_); conv => whnf))
    exact exit_plain rfl (by simp)
  | true =>
  ((try ((refine Exists.intro none ?_); (conv => whnf))); first | ((with_reducible refine call_by (s5) ?_); conv => whnf))
  refine ⟨⟨by decide, by decide⟩, ?_⟩
  conv => whnf
  cases p6 with
  | false =>
    ((try ((refine Exists.intro none ?_); (conv => whnf))); first | ((with_reducible refine call_by (n6) ?_); conv => whnf))
    exact exit_plain rfl (by simp)
  | true =>
  ((try ((refine Exists.intro none ?_); (conv => whnf))); first | ((with_reducible refine call_by (n6) ?_); conv => whnf))
  refine ⟨⟨by decide, by decide⟩, ?_⟩
  conv => whnf
  cases q6 with
  | false =>
    ((try ((refine Exists.intro none ?_); (conv => whnf))); first | ((with_reducible refine call_by (m6) ?_); conv => whnf))
    exact exit_plain rfl (by simp)
  | true =>
  ((try ((refine Exists.intro none ?_); (conv => whnf))); first | ((with_reducible refine call_by (m6) ?_); conv => whnf))
  refine ⟨⟨by decide, by decide⟩, ?_⟩
  conv => whnf
  cases t6 with
  | false =>
    ((try ((refine Exists.intro none ?_); (conv => whnf))); first | ((with_reducible refine call_by (s6) ?_); conv => whnf))
    exact exit_plain rfl (by simp)
  | true =>
  ((try ((refine Exists.intro none ?_); (conv => whnf))); first | ((with_reducible refine call_by (s6) ?_); conv => whnf))
  have hlm : (r.reads.map Rd.enc).length = r.reads.length := List.length_map ..
  simp only [Bool.true_and, Bool.and_true]
  by_cases h4 : 4 < r.reads.length
  · rw [show rdsB r = false by unfold rdsB; rw [if_pos h4]]
    ((first | (with_reducible refine split_dec (fun h => ?_) (fun h => ?_)) | (with_reducible refine split_beq (fun h => ?_) (fun h => ?_)) | (with_reducible refine split_bne (fun h => ?_) (fun h => ?_)) | (with_reducible refine split_not (fun h => ?_) (fun h => ?_)) | (with_reducible refine split_beqS (fun h => ?_) (fun h => ?_)) | (with_reducible refine split_intro (fun h => ?_) (fun h => ?_))) <;> conv => whnf)
    · exact exit_plain rfl (by simp)
    · exfalso; omega
  by_cases hz : 0 < r.reads.length ∧ r.role ≠ 3
  · rw [show rdsB r = false by unfold rdsB; rw [if_neg h4, if_pos hz]]
    ((first | (with_reducible refine split_dec (fun h => ?_) (fun h => ?_)) | (with_reducible refine split_beq (fun h => ?_) (fun h => ?_)) | (with_reducible refine split_bne (fun h => ?_) (fun h => ?_)) | (with_reducible refine split_not (fun h => ?_) (fun h => ?_)) | (with_reducible refine split_beqS (fun h => ?_) (fun h => ?_)) | (with_reducible refine split_intro (fun h => ?_) (fun h => ?_))) <;> conv => whnf)
    · exfalso; omega
    clear h
    ((first | (with_reducible refine split_dec (fun h => ?_) (fun h => ?_)) | (with_reducible refine split_beq (fun h => ?_) (fun h => ?_)) | (with_reducible refine split_bne (fun h => ?_) (fun h => ?_)) | (with_reducible refine split_not (fun h => ?_) (fun h => ?_)) | (with_reducible refine split_beqS (fun h => ?_) (fun h => ?_)) | (with_reducible refine split_intro (fun h => ?_) (fun h => ?_))) <;> conv => whnf)
    · ((first | (with_reducible refine split_dec (fun h => ?_) (fun h => ?_)) | (with_reducible refine split_beq (fun h => ?_) (fun h => ?_)) | (with_reducible refine split_bne (fun h => ?_) (fun h => ?_)) | (with_reducible refine split_not (fun h => ?_) (fun h => ?_)) | (with_reducible refine split_beqS (fun h => ?_) (fun h => ?_)) | (with_reducible refine split_intro (fun h => ?_) (fun h => ?_))) <;> conv => whnf)
      · exact exit_plain rfl (by simp)
      · exfalso; exact hz.2 (by first | exact h | exact Classical.byContradiction h)
    · exfalso; omega
  have e0 : rdsB r = r.reads.all (rdB r.commit) := by unfold rdsB; rw [if_neg h4, if_neg hz]
  rw [e0]
  clear e0
  by_cases hro : r.role = 3
  · rw [if_pos hro]
    by_cases hle : r.lead = r.id
    · rw [decide_eq_true hle, Bool.true_and]
      ((first | (with_reducible refine split_dec (fun h => ?_) (fun h => ?_)) | (with_reducible refine split_beq (fun h => ?_) (fun h => ?_)) | (with_reducible refine split_bne (fun h => ?_) (fun h => ?_)) | (with_reducible refine split_not (fun h => ?_) (fun h => ?_)) | (with_reducible refine split_beqS (fun h => ?_) (fun h => ?_)) | (with_reducible refine split_intro (fun h => ?_) (fun h => ?_))) <;> conv => whnf)
      · exfalso; omega
      clear h
      ((first | (with_reducible refine split_dec (fun h => ?_) (fun h => ?_)) | (with_reducible refine split_beq (fun h => ?_) (fun h => ?_)) | (with_reducible refine split_bne (fun h => ?_) (fun h => ?_)) | (with_reducible refine split_not (fun h => ?_) (fun h => ?_)) | (with_reducible refine split_beqS (fun h => ?_) (fun h => ?_)) | (with_reducible refine split_intro (fun h => ?_) (fun h => ?_))) <;> conv => whnf)
      · clear h
        (first | (with_reducible refine split_dt (by first | assumption | omega) ?_) | (with_reducible refine split_df (by first | assumption | omega) ?_) | (with_reducible refine split_et (by first | assumption | omega) ?_) | (with_reducible refine split_ef (by first | assumption | omega) ?_) | (with_reducible refine split_bt (by first | assumption | omega) ?_) | (with_reducible refine split_bf (by first | assumption | omega) ?_) | (with_reducible refine split_nt (by assumption) ?_) | (with_reducible refine split_nf (by assumption) ?_) | (with_reducible refine split_t (by assumption) ?_) | (with_reducible refine split_f (by assumption) ?_))
        conv => whnf
        (first | (with_reducible refine split_dt (by first | assumption | omega) ?_) | (with_reducible refine split_df (by first | assumption | omega) ?_) | (with_reducible refine split_et (by first | assumption | omega) ?_) | (with_reducible refine split_ef (by first | assumption | omega) ?_) | (with_reducible refine split_bt (by first | assumption | omega) ?_) | (with_reducible refine split_bf (by first | assumption | omega) ?_) | (with_reducible refine split_nt (by assumption) ?_) | (with_reducible refine split_nf (by assumption) ?_) | (with_reducible refine split_t (by assumption) ?_) | (with_reducible refine split_f (by assumption) ?_))
        conv => whnf
        (first | (with_reducible refine split_dt (by first | assumption | omega) ?_) | (with_reducible refine split_df (by first | assumption | omega) ?_) | (with_reducible refine split_et (by first | assumption | omega) ?_) | (with_reducible refine split_ef (by first | assumption | omega) ?_) | (with_reducible refine split_bt (by first | assumption | omega) ?_) | (with_reducible refine split_bf (by first | assumption | omega) ?_) | (with_reducible refine split_nt (by assumption) ?_) | (with_reducible refine split_nf (by assumption) ?_) | (with_reducible refine split_t (by assumption) ?_) | (with_reducible refine split_f (by assumption) ?_))
        conv => whnf
        refine tri_forO mixed (by kernel_rfl) (fun i : Nat => i ≤ r.reads.length ∧ ∀ j (hj : j < r.reads.length), j < i → rdB r.commit (r.reads[j]'hj) = true) (fun i => [(6, iv i)]) (fun _ => [(1, r.enc)]) (fun _ => []) [] (fun i => r.reads.length - i) 0 ⟨Nat.zero_le _, fun j _ h => absurd h (Nat.not_lt_zero _)⟩ ?_ ?_
        · conv => whnf
          (refine And.intro (And.intro (by with_unfolding_all rfl) (by intro q h; cases h)) ?_; refine And.intro ?_ (And.intro ?_ ?_) <;> (conv => whnf) <;> (repeat' (first | exact True.intro | (with_reducible exact rfl) | exact (rfl : List.replicate 0 PV.bad = []) | ((with_reducible refine And.intro ?_ ?_) <;> (first | (with_reducible exact wkV_same _ rfl) | exact wkV_pt rfl rfl | exact wkV_ow rfl rfl rfl | (refine wkV_ow rfl rfl ?_) | (refine wkV_sc (congrArg (Value.int .i64) ?_)) | (refine wkV_sc (congrArg Value.bool ?_)) | exact wkV_ls rfl | ((refine wkV_cl ?_); conv => whnf) | ((refine wkV_tu ?_); conv => whnf) | ((refine wkV_ag ?_); conv => whnf) | (conv => whnf))))))
          all_goals first | rfl | trace_state
        rintro i ⟨hi, hal⟩
        conv => whnf
        ((first | (with_reducible refine split_dec (fun h => ?_) (fun h => ?_)) | (with_reducible refine split_beq (fun h => ?_) (fun h => ?_)) | (with_reducible refine split_bne (fun h => ?_) (fun h => ?_)) | (with_reducible refine split_not (fun h => ?_) (fun h => ?_)) | (with_reducible refine split_beqS (fun h => ?_) (fun h => ?_)) | (with_reducible refine split_intro (fun h => ?_) (fun h => ?_))) <;> conv => whnf)
        · simp only [List.length_map] at h
          have hlt : i < r.reads.length := by omega
          clear h
          have no : rdB r.commit (r.reads[i]'hlt) = false → r.reads.all (rdB r.commit) = false := fun hn => by
            rw [List.all_eq_false]
            exact ⟨_, List.getElem_mem hlt, by rw [hn]; decide⟩
          have hk := kw (r.reads[i]'hlt)
          have k1 : Ctr Tryz.prog 35 [iv (r.reads[i]'hlt).index, iv 0, iv r.commit] (bv (inR r.commit (r.reads[i]'hlt).index)) [] := c_within16 _ _ _
          have k2 : Ctr Tryz.prog 35 [iv (r.reads[i]'hlt).round, iv 0, iv far] (bv (inR far (r.reads[i]'hlt).round)) [] := c_within16 _ _ _
          have k3 := c_Bits (r.reads[i]'hlt).acks
          rw [withinB_inR] at k3
          have hdef : rdB r.commit (r.reads[i]'hlt) = (decide (callR (r.reads[i]'hlt).call = 0) && (inR r.commit (r.reads[i]'hlt).index && (inR far (r.reads[i]'hlt).round && inR 127 (r.reads[i]'hlt).acks))) := rfl
          have hstep : rdB r.commit (r.reads[i]'hlt) = true → ∀ j (hj : j < r.reads.length), j < i + 1 → rdB r.commit (r.reads[j]'hj) = true := fun ht j hj hji => by
            by_cases e : j = i
            · subst e; exact ht
            · exact hal j hj (by omega)
          (first | ((with_reducible refine And.intro (by omega) (Exists.intro _ (And.intro (row_at hlt) ?_))); conv => whnf))
          generalize r.reads[i]'hlt = x at *
          ((try ((refine Exists.intro none ?_); (conv => whnf))); first | ((with_reducible refine call_by (hk) ?_); conv => whnf))
          ((first | (with_reducible refine split_dec (fun h => ?_) (fun h => ?_)) | (with_reducible refine split_beq (fun h => ?_) (fun h => ?_)) | (with_reducible refine split_bne (fun h => ?_) (fun h => ?_)) | (with_reducible refine split_not (fun h => ?_) (fun h => ?_)) | (with_reducible refine split_beqS (fun h => ?_) (fun h => ?_)) | (with_reducible refine split_intro (fun h => ?_) (fun h => ?_))) <;> conv => whnf)
          · exact exit_plain rfl (by rw [no (by rw [hdef, decide_eq_false h]; rfl)])
          have hc : callR x.call = 0 := by first | exact h | exact Classical.byContradiction h
          clear h
          rw [decide_eq_true hc, Bool.true_and] at hdef
          generalize inR r.commit x.index = b1 at *
          generalize inR far x.round = b2 at *
          generalize inR 127 x.acks = b3 at *
          cases b1
          · ((try ((refine Exists.intro none ?_); (conv => whnf))); first | ((with_reducible refine call_by (k1) ?_); conv => whnf))
            exact exit_plain rfl (by rw [no hdef])
          cases b2
          · ((try ((refine Exists.intro none ?_); (conv => whnf))); first | ((with_reducible refine call_by (k1) ?_); conv => whnf))
            ((try ((refine Exists.intro none ?_); (conv => whnf))); first | ((with_reducible refine call_by (k2) ?_); conv => whnf))
            exact exit_plain rfl (by rw [no hdef])
          cases b3
          · ((try ((refine Exists.intro none ?_); (conv => whnf))); first | ((with_reducible refine call_by (k1) ?_); conv => whnf))
            ((try ((refine Exists.intro none ?_); (conv => whnf))); first | ((with_reducible refine call_by (k2) ?_); conv => whnf))
            ((try ((refine Exists.intro none ?_); (conv => whnf))); first | ((with_reducible refine call_by (k3) ?_); conv => whnf))
            exact exit_plain rfl (by rw [no hdef])
          ((try ((refine Exists.intro none ?_); (conv => whnf))); first | ((with_reducible refine call_by (k1) ?_); conv => whnf))
          ((try ((refine Exists.intro none ?_); (conv => whnf))); first | ((with_reducible refine call_by (k2) ?_); conv => whnf))
          ((try ((refine Exists.intro none ?_); (conv => whnf))); first | ((with_reducible refine call_by (k3) ?_); conv => whnf))
          refine ⟨i + 1, [], ⟨⟨by omega, hstep hdef⟩, by omega⟩, ?_⟩
          conv => whnf
          (refine And.intro (And.intro (by with_unfolding_all rfl) (by intro q h; cases h)) ?_; refine And.intro ?_ (And.intro ?_ ?_) <;> (conv => whnf) <;> (repeat' (first | exact True.intro | (with_reducible exact rfl) | exact (rfl : List.replicate 0 PV.bad = []) | ((with_reducible refine And.intro ?_ ?_) <;> (first | (with_reducible exact wkV_same _ rfl) | exact wkV_pt rfl rfl | exact wkV_ow rfl rfl rfl | (refine wkV_ow rfl rfl ?_) | (refine wkV_sc (congrArg (Value.int .i64) ?_)) | (refine wkV_sc (congrArg Value.bool ?_)) | exact wkV_ls rfl | ((refine wkV_cl ?_); conv => whnf) | ((refine wkV_tu ?_); conv => whnf) | ((refine wkV_ag ?_); conv => whnf) | (conv => whnf))))))
          all_goals first | exact w1 (by omega) | rfl | trace_state
        · simp only [List.length_map] at h
          have ei : i = r.reads.length := by omega
          have : r.reads.all (rdB r.commit) = true := by
            rw [List.all_eq_true]
            intro x hx
            obtain ⟨j, hj, rfl⟩ := List.getElem_of_mem hx
            exact hal j hj (by omega)
          exact exit_plain rfl (by rw [this])
      · clear h
        (first | (with_reducible refine split_dt (by first | assumption | omega) ?_) | (with_reducible refine split_df (by first | assumption | omega) ?_) | (with_reducible refine split_et (by first | assumption | omega) ?_) | (with_reducible refine split_ef (by first | assumption | omega) ?_) | (with_reducible refine split_bt (by first | assumption | omega) ?_) | (with_reducible refine split_bf (by first | assumption | omega) ?_) | (with_reducible refine split_nt (by assumption) ?_) | (with_reducible refine split_nf (by assumption) ?_) | (with_reducible refine split_t (by assumption) ?_) | (with_reducible refine split_f (by assumption) ?_))
        conv => whnf
        (first | (with_reducible refine split_dt (by first | assumption | omega) ?_) | (with_reducible refine split_df (by first | assumption | omega) ?_) | (with_reducible refine split_et (by first | assumption | omega) ?_) | (with_reducible refine split_ef (by first | assumption | omega) ?_) | (with_reducible refine split_bt (by first | assumption | omega) ?_) | (with_reducible refine split_bf (by first | assumption | omega) ?_) | (with_reducible refine split_nt (by assumption) ?_) | (with_reducible refine split_nf (by assumption) ?_) | (with_reducible refine split_t (by assumption) ?_) | (with_reducible refine split_f (by assumption) ?_))
        conv => whnf
        refine tri_forO mixed (by kernel_rfl) (fun i : Nat => i ≤ r.reads.length ∧ ∀ j (hj : j < r.reads.length), j < i → rdB r.commit (r.reads[j]'hj) = true) (fun i => [(6, iv i)]) (fun _ => [(1, r.enc)]) (fun _ => []) [] (fun i => r.reads.length - i) 0 ⟨Nat.zero_le _, fun j _ h => absurd h (Nat.not_lt_zero _)⟩ ?_ ?_
        · conv => whnf
          (refine And.intro (And.intro (by with_unfolding_all rfl) (by intro q h; cases h)) ?_; refine And.intro ?_ (And.intro ?_ ?_) <;> (conv => whnf) <;> (repeat' (first | exact True.intro | (with_reducible exact rfl) | exact (rfl : List.replicate 0 PV.bad = []) | ((with_reducible refine And.intro ?_ ?_) <;> (first | (with_reducible exact wkV_same _ rfl) | exact wkV_pt rfl rfl | exact wkV_ow rfl rfl rfl | (refine wkV_ow rfl rfl ?_) | (refine wkV_sc (congrArg (Value.int .i64) ?_)) | (refine wkV_sc (congrArg Value.bool ?_)) | exact wkV_ls rfl | ((refine wkV_cl ?_); conv => whnf) | ((refine wkV_tu ?_); conv => whnf) | ((refine wkV_ag ?_); conv => whnf) | (conv => whnf))))))
          all_goals first | rfl | trace_state
        rintro i ⟨hi, hal⟩
        conv => whnf
        ((first | (with_reducible refine split_dec (fun h => ?_) (fun h => ?_)) | (with_reducible refine split_beq (fun h => ?_) (fun h => ?_)) | (with_reducible refine split_bne (fun h => ?_) (fun h => ?_)) | (with_reducible refine split_not (fun h => ?_) (fun h => ?_)) | (with_reducible refine split_beqS (fun h => ?_) (fun h => ?_)) | (with_reducible refine split_intro (fun h => ?_) (fun h => ?_))) <;> conv => whnf)
        · simp only [List.length_map] at h
          have hlt : i < r.reads.length := by omega
          clear h
          have no : rdB r.commit (r.reads[i]'hlt) = false → r.reads.all (rdB r.commit) = false := fun hn => by
            rw [List.all_eq_false]
            exact ⟨_, List.getElem_mem hlt, by rw [hn]; decide⟩
          have hk := kw (r.reads[i]'hlt)
          have k1 : Ctr Tryz.prog 35 [iv (r.reads[i]'hlt).index, iv 0, iv r.commit] (bv (inR r.commit (r.reads[i]'hlt).index)) [] := c_within16 _ _ _
          have k2 : Ctr Tryz.prog 35 [iv (r.reads[i]'hlt).round, iv 0, iv far] (bv (inR far (r.reads[i]'hlt).round)) [] := c_within16 _ _ _
          have k3 := c_Bits (r.reads[i]'hlt).acks
          rw [withinB_inR] at k3
          have hdef : rdB r.commit (r.reads[i]'hlt) = (decide (callR (r.reads[i]'hlt).call = 0) && (inR r.commit (r.reads[i]'hlt).index && (inR far (r.reads[i]'hlt).round && inR 127 (r.reads[i]'hlt).acks))) := rfl
          have hstep : rdB r.commit (r.reads[i]'hlt) = true → ∀ j (hj : j < r.reads.length), j < i + 1 → rdB r.commit (r.reads[j]'hj) = true := fun ht j hj hji => by
            by_cases e : j = i
            · subst e; exact ht
            · exact hal j hj (by omega)
          (first | ((with_reducible refine And.intro (by omega) (Exists.intro _ (And.intro (row_at hlt) ?_))); conv => whnf))
          generalize r.reads[i]'hlt = x at *
          ((try ((refine Exists.intro none ?_); (conv => whnf))); first | ((with_reducible refine call_by (hk) ?_); conv => whnf))
          ((first | (with_reducible refine split_dec (fun h => ?_) (fun h => ?_)) | (with_reducible refine split_beq (fun h => ?_) (fun h => ?_)) | (with_reducible refine split_bne (fun h => ?_) (fun h => ?_)) | (with_reducible refine split_not (fun h => ?_) (fun h => ?_)) | (with_reducible refine split_beqS (fun h => ?_) (fun h => ?_)) | (with_reducible refine split_intro (fun h => ?_) (fun h => ?_))) <;> conv => whnf)
          · exact exit_plain rfl (by rw [no (by rw [hdef, decide_eq_false h]; rfl)])
          have hc : callR x.call = 0 := by first | exact h | exact Classical.byContradiction h
          clear h
          rw [decide_eq_true hc, Bool.true_and] at hdef
          generalize inR r.commit x.index = b1 at *
          generalize inR far x.round = b2 at *
          generalize inR 127 x.acks = b3 at *
          cases b1
          · ((try ((refine Exists.intro none ?_); (conv => whnf))); first | ((with_reducible refine call_by (k1) ?_); conv => whnf))
            exact exit_plain rfl (by rw [no hdef])
          cases b2
          · ((try ((refine Exists.intro none ?_); (conv => whnf))); first | ((with_reducible refine call_by (k1) ?_); conv => whnf))
            ((try ((refine Exists.intro none ?_); (conv => whnf))); first | ((with_reducible refine call_by (k2) ?_); conv => whnf))
            exact exit_plain rfl (by rw [no hdef])
          cases b3
          · ((try ((refine Exists.intro none ?_); (conv => whnf))); first | ((with_reducible refine call_by (k1) ?_); conv => whnf))
            ((try ((refine Exists.intro none ?_); (conv => whnf))); first | ((with_reducible refine call_by (k2) ?_); conv => whnf))
            ((try ((refine Exists.intro none ?_); (conv => whnf))); first | ((with_reducible refine call_by (k3) ?_); conv => whnf))
            exact exit_plain rfl (by rw [no hdef])
          ((try ((refine Exists.intro none ?_); (conv => whnf))); first | ((with_reducible refine call_by (k1) ?_); conv => whnf))
          ((try ((refine Exists.intro none ?_); (conv => whnf))); first | ((with_reducible refine call_by (k2) ?_); conv => whnf))
          ((try ((refine Exists.intro none ?_); (conv => whnf))); first | ((with_reducible refine call_by (k3) ?_); conv => whnf))
          refine ⟨i + 1, [], ⟨⟨by omega, hstep hdef⟩, by omega⟩, ?_⟩
          conv => whnf
          (refine And.intro (And.intro (by with_unfolding_all rfl) (by intro q h; cases h)) ?_; refine And.intro ?_ (And.intro ?_ ?_) <;> (conv => whnf) <;> (repeat' (first | exact True.intro | (with_reducible exact rfl) | exact (rfl : List.replicate 0 PV.bad = []) | ((with_reducible refine And.intro ?_ ?_) <;> (first | (with_reducible exact wkV_same _ rfl) | exact wkV_pt rfl rfl | exact wkV_ow rfl rfl rfl | (refine wkV_ow rfl rfl ?_) | (refine wkV_sc (congrArg (Value.int .i64) ?_)) | (refine wkV_sc (congrArg Value.bool ?_)) | exact wkV_ls rfl | ((refine wkV_cl ?_); conv => whnf) | ((refine wkV_tu ?_); conv => whnf) | ((refine wkV_ag ?_); conv => whnf) | (conv => whnf))))))
          all_goals first | exact w1 (by omega) | rfl | trace_state
        · simp only [List.length_map] at h
          have ei : i = r.reads.length := by omega
          have : r.reads.all (rdB r.commit) = true := by
            rw [List.all_eq_true]
            intro x hx
            obtain ⟨j, hj, rfl⟩ := List.getElem_of_mem hx
            exact hal j hj (by omega)
          exact exit_plain rfl (by rw [this])
    · rw [decide_eq_false hle, Bool.false_and]
      ((first | (with_reducible refine split_dec (fun h => ?_) (fun h => ?_)) | (with_reducible refine split_beq (fun h => ?_) (fun h => ?_)) | (with_reducible refine split_bne (fun h => ?_) (fun h => ?_)) | (with_reducible refine split_not (fun h => ?_) (fun h => ?_)) | (with_reducible refine split_beqS (fun h => ?_) (fun h => ?_)) | (with_reducible refine split_intro (fun h => ?_) (fun h => ?_))) <;> conv => whnf)
      · exact exit_plain rfl rfl
      clear h
      ((first | (with_reducible refine split_dec (fun h => ?_) (fun h => ?_)) | (with_reducible refine split_beq (fun h => ?_) (fun h => ?_)) | (with_reducible refine split_bne (fun h => ?_) (fun h => ?_)) | (with_reducible refine split_not (fun h => ?_) (fun h => ?_)) | (with_reducible refine split_beqS (fun h => ?_) (fun h => ?_)) | (with_reducible refine split_intro (fun h => ?_) (fun h => ?_))) <;> conv => whnf)
      · clear h
        (first | (with_reducible refine split_dt (by first | assumption | omega) ?_) | (with_reducible refine split_df (by first | assumption | omega) ?_) | (with_reducible refine split_et (by first | assumption | omega) ?_) | (with_reducible refine split_ef (by first | assumption | omega) ?_) | (with_reducible refine split_bt (by first | assumption | omega) ?_) | (with_reducible refine split_bf (by first | assumption | omega) ?_) | (with_reducible refine split_nt (by assumption) ?_) | (with_reducible refine split_nf (by assumption) ?_) | (with_reducible refine split_t (by assumption) ?_) | (with_reducible refine split_f (by assumption) ?_))
        conv => whnf
        (first | (with_reducible refine split_dt (by first | assumption | omega) ?_) | (with_reducible refine split_df (by first | assumption | omega) ?_) | (with_reducible refine split_et (by first | assumption | omega) ?_) | (with_reducible refine split_ef (by first | assumption | omega) ?_) | (with_reducible refine split_bt (by first | assumption | omega) ?_) | (with_reducible refine split_bf (by first | assumption | omega) ?_) | (with_reducible refine split_nt (by assumption) ?_) | (with_reducible refine split_nf (by assumption) ?_) | (with_reducible refine split_t (by assumption) ?_) | (with_reducible refine split_f (by assumption) ?_))
        conv => whnf
        (first | (with_reducible refine split_dt (by first | assumption | omega) ?_) | (with_reducible refine split_df (by first | assumption | omega) ?_) | (with_reducible refine split_et (by first | assumption | omega) ?_) | (with_reducible refine split_ef (by first | assumption | omega) ?_) | (with_reducible refine split_bt (by first | assumption | omega) ?_) | (with_reducible refine split_bf (by first | assumption | omega) ?_) | (with_reducible refine split_nt (by assumption) ?_) | (with_reducible refine split_nf (by assumption) ?_) | (with_reducible refine split_t (by assumption) ?_) | (with_reducible refine split_f (by assumption) ?_))
        conv => whnf
        exact exit_plain rfl rfl
      · clear h
        (first | (with_reducible refine split_dt (by first | assumption | omega) ?_) | (with_reducible refine split_df (by first | assumption | omega) ?_) | (with_reducible refine split_et (by first | assumption | omega) ?_) | (with_reducible refine split_ef (by first | assumption | omega) ?_) | (with_reducible refine split_bt (by first | assumption | omega) ?_) | (with_reducible refine split_bf (by first | assumption | omega) ?_) | (with_reducible refine split_nt (by assumption) ?_) | (with_reducible refine split_nf (by assumption) ?_) | (with_reducible refine split_t (by assumption) ?_) | (with_reducible refine split_f (by assumption) ?_))
        conv => whnf
        (first | (with_reducible refine split_dt (by first | assumption | omega) ?_) | (with_reducible refine split_df (by first | assumption | omega) ?_) | (with_reducible refine split_et (by first | assumption | omega) ?_) | (with_reducible refine split_ef (by first | assumption | omega) ?_) | (with_reducible refine split_bt (by first | assumption | omega) ?_) | (with_reducible refine split_bf (by first | assumption | omega) ?_) | (with_reducible refine split_nt (by assumption) ?_) | (with_reducible refine split_nf (by assumption) ?_) | (with_reducible refine split_t (by assumption) ?_) | (with_reducible refine split_f (by assumption) ?_))
        conv => whnf
        exact exit_plain rfl rfl
  · rw [if_neg hro, Bool.true_and]
    ((first | (with_reducible refine split_dec (fun h => ?_) (fun h => ?_)) | (with_reducible refine split_beq (fun h => ?_) (fun h => ?_)) | (with_reducible refine split_bne (fun h => ?_) (fun h => ?_)) | (with_reducible refine split_not (fun h => ?_) (fun h => ?_)) | (with_reducible refine split_beqS (fun h => ?_) (fun h => ?_)) | (with_reducible refine split_intro (fun h => ?_) (fun h => ?_))) <;> conv => whnf)
    · exfalso; omega
    clear h
    ((first | (with_reducible refine split_dec (fun h => ?_) (fun h => ?_)) | (with_reducible refine split_beq (fun h => ?_) (fun h => ?_)) | (with_reducible refine split_bne (fun h => ?_) (fun h => ?_)) | (with_reducible refine split_not (fun h => ?_) (fun h => ?_)) | (with_reducible refine split_beqS (fun h => ?_) (fun h => ?_)) | (with_reducible refine split_intro (fun h => ?_) (fun h => ?_))) <;> conv => whnf)
    · exfalso; exact hz ⟨by omega, hro⟩
    clear h
    (first | (with_reducible refine split_dt (by first | assumption | omega) ?_) | (with_reducible refine split_df (by first | assumption | omega) ?_) | (with_reducible refine split_et (by first | assumption | omega) ?_) | (with_reducible refine split_ef (by first | assumption | omega) ?_) | (with_reducible refine split_bt (by first | assumption | omega) ?_) | (with_reducible refine split_bf (by first | assumption | omega) ?_) | (with_reducible refine split_nt (by assumption) ?_) | (with_reducible refine split_nf (by assumption) ?_) | (with_reducible refine split_t (by assumption) ?_) | (with_reducible refine split_f (by assumption) ?_))
    conv => whnf
    refine tri_forO mixed (by kernel_rfl) (fun i : Nat => i ≤ r.reads.length ∧ ∀ j (hj : j < r.reads.length), j < i → rdB r.commit (r.reads[j]'hj) = true) (fun i => [(6, iv i)]) (fun _ => [(1, r.enc)]) (fun _ => []) [] (fun i => r.reads.length - i) 0 ⟨Nat.zero_le _, fun j _ h => absurd h (Nat.not_lt_zero _)⟩ ?_ ?_
    · conv => whnf
      (refine And.intro (And.intro (by with_unfolding_all rfl) (by intro q h; cases h)) ?_; refine And.intro ?_ (And.intro ?_ ?_) <;> (conv => whnf) <;> (repeat' (first | exact True.intro | (with_reducible exact rfl) | exact (rfl : List.replicate 0 PV.bad = []) | ((with_reducible refine And.intro ?_ ?_) <;> (first | (with_reducible exact wkV_same _ rfl) | exact wkV_pt rfl rfl | exact wkV_ow rfl rfl rfl | (refine wkV_ow rfl rfl ?_) | (refine wkV_sc (congrArg (Value.int .i64) ?_)) | (refine wkV_sc (congrArg Value.bool ?_)) | exact wkV_ls rfl | ((refine wkV_cl ?_); conv => whnf) | ((refine wkV_tu ?_); conv => whnf) | ((refine wkV_ag ?_); conv => whnf) | (conv => whnf))))))
      all_goals first | rfl | trace_state
    rintro i ⟨hi, hal⟩
    conv => whnf
    ((first | (with_reducible refine split_dec (fun h => ?_) (fun h => ?_)) | (with_reducible refine split_beq (fun h => ?_) (fun h => ?_)) | (with_reducible refine split_bne (fun h => ?_) (fun h => ?_)) | (with_reducible refine split_not (fun h => ?_) (fun h => ?_)) | (with_reducible refine split_beqS (fun h => ?_) (fun h => ?_)) | (with_reducible refine split_intro (fun h => ?_) (fun h => ?_))) <;> conv => whnf)
    · simp only [List.length_map] at h
      have hlt : i < r.reads.length := by omega
      clear h
      have no : rdB r.commit (r.reads[i]'hlt) = false → r.reads.all (rdB r.commit) = false := fun hn => by
        rw [List.all_eq_false]
        exact ⟨_, List.getElem_mem hlt, by rw [hn]; decide⟩
      have hk := kw (r.reads[i]'hlt)
      have k1 : Ctr Tryz.prog 35 [iv (r.reads[i]'hlt).index, iv 0, iv r.commit] (bv (inR r.commit (r.reads[i]'hlt).index)) [] := c_within16 _ _ _
      have k2 : Ctr Tryz.prog 35 [iv (r.reads[i]'hlt).round, iv 0, iv far] (bv (inR far (r.reads[i]'hlt).round)) [] := c_within16 _ _ _
      have k3 := c_Bits (r.reads[i]'hlt).acks
      rw [withinB_inR] at k3
      have hdef : rdB r.commit (r.reads[i]'hlt) = (decide (callR (r.reads[i]'hlt).call = 0) && (inR r.commit (r.reads[i]'hlt).index && (inR far (r.reads[i]'hlt).round && inR 127 (r.reads[i]'hlt).acks))) := rfl
      have hstep : rdB r.commit (r.reads[i]'hlt) = true → ∀ j (hj : j < r.reads.length), j < i + 1 → rdB r.commit (r.reads[j]'hj) = true := fun ht j hj hji => by
        by_cases e : j = i
        · subst e; exact ht
        · exact hal j hj (by omega)
      (first | ((with_reducible refine And.intro (by omega) (Exists.intro _ (And.intro (row_at hlt) ?_))); conv => whnf))
      generalize r.reads[i]'hlt = x at *
      ((try ((refine Exists.intro none ?_); (conv => whnf))); first | ((with_reducible refine call_by (hk) ?_); conv => whnf))
      ((first | (with_reducible refine split_dec (fun h => ?_) (fun h => ?_)) | (with_reducible refine split_beq (fun h => ?_) (fun h => ?_)) | (with_reducible refine split_bne (fun h => ?_) (fun h => ?_)) | (with_reducible refine split_not (fun h => ?_) (fun h => ?_)) | (with_reducible refine split_beqS (fun h => ?_) (fun h => ?_)) | (with_reducible refine split_intro (fun h => ?_) (fun h => ?_))) <;> conv => whnf)
      · exact exit_plain rfl (by rw [no (by rw [hdef, decide_eq_false h]; rfl)])
      have hc : callR x.call = 0 := by first | exact h | exact Classical.byContradiction h
      clear h
      rw [decide_eq_true hc, Bool.true_and] at hdef
      generalize inR r.commit x.index = b1 at *
      generalize inR far x.round = b2 at *
      generalize inR 127 x.acks = b3 at *
      cases b1
      · ((try ((refine Exists.intro none ?_); (conv => whnf))); first | ((with_reducible refine call_by (k1) ?_); conv => whnf))
        exact exit_plain rfl (by rw [no hdef])
      cases b2
      · ((try ((refine Exists.intro none ?_); (conv => whnf))); first | ((with_reducible refine call_by (k1) ?_); conv => whnf))
        ((try ((refine Exists.intro none ?_); (conv => whnf))); first | ((with_reducible refine call_by (k2) ?_); conv => whnf))
        exact exit_plain rfl (by rw [no hdef])
      cases b3
      · ((try ((refine Exists.intro none ?_); (conv => whnf))); first | ((with_reducible refine call_by (k1) ?_); conv => whnf))
        ((try ((refine Exists.intro none ?_); (conv => whnf))); first | ((with_reducible refine call_by (k2) ?_); conv => whnf))
        ((try ((refine Exists.intro none ?_); (conv => whnf))); first | ((with_reducible refine call_by (k3) ?_); conv => whnf))
        exact exit_plain rfl (by rw [no hdef])
      ((try ((refine Exists.intro none ?_); (conv => whnf))); first | ((with_reducible refine call_by (k1) ?_); conv => whnf))
      ((try ((refine Exists.intro none ?_); (conv => whnf))); first | ((with_reducible refine call_by (k2) ?_); conv => whnf))
      ((try ((refine Exists.intro none ?_); (conv => whnf))); first | ((with_reducible refine call_by (k3) ?_); conv => whnf))
      refine ⟨i + 1, [], ⟨⟨by omega, hstep hdef⟩, by omega⟩, ?_⟩
      conv => whnf
      (refine And.intro (And.intro (by with_unfolding_all rfl) (by intro q h; cases h)) ?_; refine And.intro ?_ (And.intro ?_ ?_) <;> (conv => whnf) <;> (repeat' (first | exact True.intro | (with_reducible exact rfl) | exact (rfl : List.replicate 0 PV.bad = []) | ((with_reducible refine And.intro ?_ ?_) <;> (first | (with_reducible exact wkV_same _ rfl) | exact wkV_pt rfl rfl | exact wkV_ow rfl rfl rfl | (refine wkV_ow rfl rfl ?_) | (refine wkV_sc (congrArg (Value.int .i64) ?_)) | (refine wkV_sc (congrArg Value.bool ?_)) | exact wkV_ls rfl | ((refine wkV_cl ?_); conv => whnf) | ((refine wkV_tu ?_); conv => whnf) | ((refine wkV_ag ?_); conv => whnf) | (conv => whnf))))))
      all_goals first | exact w1 (by omega) | rfl | trace_state
    · simp only [List.length_map] at h
      have ei : i = r.reads.length := by omega
      have : r.reads.all (rdB r.commit) = true := by
        rw [List.all_eq_true]
        intro x hx
        obtain ⟨j, hj, rfl⟩ := List.getElem_of_mem hx
        exact hal j hj (by omega)
      exact exit_plain rfl (by rw [this])
end Go.Proofs
