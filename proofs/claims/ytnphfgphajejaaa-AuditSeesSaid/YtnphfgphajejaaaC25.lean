/- Contracts of functions: leaders, logs that match, that agree (the reference's). -/
import Derived.Test.YtnphfgphajejaaaC24
namespace Go.Proofs
open Go.Pv
set_option maxRecDepth 100000

theorem c_rLeaders (l : List Rft) (hl : l.length ≤ maxLen) : Ctr Try.prog 83 [.sl 40 (l.map Rft.enc)] (bv (dec (pairsP leadF l))) [] := by
  have hl' : l.length ≤ 9223372036854775807 := Nat.le_trans hl (by decide)
  refine spec_of_body mixed Try.func83 rfl (by kernel_rfl) (by kernel_rfl) ?_; conv => whnf
  refine tri_for0 mixed (by kernel_rfl) (fun i : Nat => i ≤ l.length ∧ ∀ j (hj : j < l.length), j < i → ∀ k (hk : k < j), leadF (l[k]'(Nat.lt_trans hk hj)) (l[j]'hj) = true) (fun i => [(3, iv i)]) [] (fun i => l.length - i) 0 ⟨Nat.zero_le _, fun j _ h => absurd h (Nat.not_lt_zero _)⟩ ?_ ?_
  · conv => whnf
    (refine And.intro (And.intro (by with_unfolding_all rfl) (by intro q h; cases h)) ?_; refine And.intro ?_ (And.intro ?_ ?_) <;> (conv => whnf) <;> (repeat' (first | exact True.intro | (with_reducible exact rfl) | exact (rfl : List.replicate 0 PV.bad = []) | ((with_reducible refine And.intro ?_ ?_) <;> (first | (with_reducible exact wkV_same _ rfl) | exact wkV_pt rfl rfl | exact wkV_ow rfl rfl rfl | (refine wkV_ow rfl rfl ?_) | (refine wkV_sc (congrArg (Value.int .i64) ?_)) | (refine wkV_sc (congrArg Value.bool ?_)) | exact wkV_ls rfl | ((refine wkV_cl ?_); conv => whnf) | ((refine wkV_tu ?_); conv => whnf) | ((refine wkV_ag ?_); conv => whnf) | (conv => whnf))))))
    all_goals rfl
  rintro i ⟨hi, hp⟩
  conv => whnf
  ((first | (with_reducible refine split_dec (fun h => ?_) (fun h => ?_)) | (with_reducible refine split_beq (fun h => ?_) (fun h => ?_)) | (with_reducible refine split_bne (fun h => ?_) (fun h => ?_)) | (with_reducible refine split_not (fun h => ?_) (fun h => ?_)) | (with_reducible refine split_beqS (fun h => ?_) (fun h => ?_)) | (with_reducible refine split_intro (fun h => ?_) (fun h => ?_))) <;> conv => whnf)
  · simp only [List.length_map] at h
    have hlt : i < l.length := by omega
    refine tri_for0 mixed (by kernel_rfl) (fun k : Nat => k ≤ i ∧ ∀ j (hj : j < k) (hjl : j < l.length), leadF (l[j]'hjl) (l[i]'hlt) = true) (fun k => [(4, iv k)]) [] (fun k => i - k) 0 ⟨Nat.zero_le _, fun j h => absurd h (Nat.not_lt_zero _)⟩ ?_ ?_
    · conv => whnf
      (refine And.intro (And.intro (by with_unfolding_all rfl) (by intro q h; cases h)) ?_; refine And.intro ?_ (And.intro ?_ ?_) <;> (conv => whnf) <;> (repeat' (first | exact True.intro | (with_reducible exact rfl) | exact (rfl : List.replicate 0 PV.bad = []) | ((with_reducible refine And.intro ?_ ?_) <;> (first | (with_reducible exact wkV_same _ rfl) | exact wkV_pt rfl rfl | exact wkV_ow rfl rfl rfl | (refine wkV_ow rfl rfl ?_) | (refine wkV_sc (congrArg (Value.int .i64) ?_)) | (refine wkV_sc (congrArg Value.bool ?_)) | exact wkV_ls rfl | ((refine wkV_cl ?_); conv => whnf) | ((refine wkV_tu ?_); conv => whnf) | ((refine wkV_ag ?_); conv => whnf) | (conv => whnf))))))
      all_goals rfl
    rintro k ⟨hk, hq⟩
    conv => whnf
    ((first | (with_reducible refine split_dec (fun h => ?_) (fun h => ?_)) | (with_reducible refine split_beq (fun h => ?_) (fun h => ?_)) | (with_reducible refine split_bne (fun h => ?_) (fun h => ?_)) | (with_reducible refine split_not (fun h => ?_) (fun h => ?_)) | (with_reducible refine split_beqS (fun h => ?_) (fun h => ?_)) | (with_reducible refine split_intro (fun h => ?_) (fun h => ?_))) <;> conv => whnf)
    · have hki : k < i := by omega
      have hkl : k < l.length := by omega
      have next : leadF (l[k]'hkl) (l[i]'hlt) = true → ∀ j (hj : j < k + 1) (hjl : j < l.length), leadF (l[j]'hjl) (l[i]'hlt) = true := by
        intro hh j hj hjl
        by_cases e : j = k
        · subst e; exact hh
        · exact hq j (by omega) hjl
      (first | ((with_reducible refine And.intro (by omega) (Exists.intro _ (And.intro (row_at hlt) ?_))); conv => whnf))
      ((first | (with_reducible refine split_dec (fun h => ?_) (fun h => ?_)) | (with_reducible refine split_beq (fun h => ?_) (fun h => ?_)) | (with_reducible refine split_bne (fun h => ?_) (fun h => ?_)) | (with_reducible refine split_not (fun h => ?_) (fun h => ?_)) | (with_reducible refine split_beqS (fun h => ?_) (fun h => ?_)) | (with_reducible refine split_intro (fun h => ?_) (fun h => ?_))) <;> conv => whnf)
      · have q1 := h
        (first | ((with_reducible refine And.intro (by omega) (Exists.intro _ (And.intro (row_at hkl) ?_))); conv => whnf))
        ((first | (with_reducible refine split_dec (fun h => ?_) (fun h => ?_)) | (with_reducible refine split_beq (fun h => ?_) (fun h => ?_)) | (with_reducible refine split_bne (fun h => ?_) (fun h => ?_)) | (with_reducible refine split_not (fun h => ?_) (fun h => ?_)) | (with_reducible refine split_beqS (fun h => ?_) (fun h => ?_)) | (with_reducible refine split_intro (fun h => ?_) (fun h => ?_))) <;> conv => whnf)
        · have q2 := h
          (first | ((with_reducible refine And.intro (by omega) (Exists.intro _ (And.intro (row_at hlt) ?_))); conv => whnf))
          (first | ((with_reducible refine And.intro (by omega) (Exists.intro _ (And.intro (row_at hkl) ?_))); conv => whnf))
          ((first | (with_reducible refine split_dec (fun h => ?_) (fun h => ?_)) | (with_reducible refine split_beq (fun h => ?_) (fun h => ?_)) | (with_reducible refine split_bne (fun h => ?_) (fun h => ?_)) | (with_reducible refine split_not (fun h => ?_) (fun h => ?_)) | (with_reducible refine split_beqS (fun h => ?_) (fun h => ?_)) | (with_reducible refine split_intro (fun h => ?_) (fun h => ?_))) <;> conv => whnf)
          · refine exit_plain rfl ?_
            rw [dec_false]
            intro hh
            have := hh i hlt k hki
            simp [leadF, q1, q2, h] at this
          · refine ⟨k + 1, ⟨⟨by omega, next (by simp [leadF, q1, q2]; intro e; exact h e.symm)⟩, by omega⟩, ?_⟩
            conv => whnf
            (refine And.intro (And.intro (by with_unfolding_all rfl) (by intro q h; cases h)) ?_; refine And.intro ?_ (And.intro ?_ ?_) <;> (conv => whnf) <;> (repeat' (first | exact True.intro | (with_reducible exact rfl) | exact (rfl : List.replicate 0 PV.bad = []) | ((with_reducible refine And.intro ?_ ?_) <;> (first | (with_reducible exact wkV_same _ rfl) | exact wkV_pt rfl rfl | exact wkV_ow rfl rfl rfl | (refine wkV_ow rfl rfl ?_) | (refine wkV_sc (congrArg (Value.int .i64) ?_)) | (refine wkV_sc (congrArg Value.bool ?_)) | exact wkV_ls rfl | ((refine wkV_cl ?_); conv => whnf) | ((refine wkV_tu ?_); conv => whnf) | ((refine wkV_ag ?_); conv => whnf) | (conv => whnf))))))
            all_goals first | exact w1 (by omega) | rfl
        · refine ⟨k + 1, ⟨⟨by omega, next (by simp [leadF, h])⟩, by omega⟩, ?_⟩
          conv => whnf
          (refine And.intro (And.intro (by with_unfolding_all rfl) (by intro q h; cases h)) ?_; refine And.intro ?_ (And.intro ?_ ?_) <;> (conv => whnf) <;> (repeat' (first | exact True.intro | (with_reducible exact rfl) | exact (rfl : List.replicate 0 PV.bad = []) | ((with_reducible refine And.intro ?_ ?_) <;> (first | (with_reducible exact wkV_same _ rfl) | exact wkV_pt rfl rfl | exact wkV_ow rfl rfl rfl | (refine wkV_ow rfl rfl ?_) | (refine wkV_sc (congrArg (Value.int .i64) ?_)) | (refine wkV_sc (congrArg Value.bool ?_)) | exact wkV_ls rfl | ((refine wkV_cl ?_); conv => whnf) | ((refine wkV_tu ?_); conv => whnf) | ((refine wkV_ag ?_); conv => whnf) | (conv => whnf))))))
          all_goals first | exact w1 (by omega) | rfl
      · refine ⟨k + 1, ⟨⟨by omega, next (by simp [leadF, h])⟩, by omega⟩, ?_⟩
        conv => whnf
        (refine And.intro (And.intro (by with_unfolding_all rfl) (by intro q h; cases h)) ?_; refine And.intro ?_ (And.intro ?_ ?_) <;> (conv => whnf) <;> (repeat' (first | exact True.intro | (with_reducible exact rfl) | exact (rfl : List.replicate 0 PV.bad = []) | ((with_reducible refine And.intro ?_ ?_) <;> (first | (with_reducible exact wkV_same _ rfl) | exact wkV_pt rfl rfl | exact wkV_ow rfl rfl rfl | (refine wkV_ow rfl rfl ?_) | (refine wkV_sc (congrArg (Value.int .i64) ?_)) | (refine wkV_sc (congrArg Value.bool ?_)) | exact wkV_ls rfl | ((refine wkV_cl ?_); conv => whnf) | ((refine wkV_tu ?_); conv => whnf) | ((refine wkV_ag ?_); conv => whnf) | (conv => whnf))))))
        all_goals first | exact w1 (by omega) | rfl
    · have : k = i := by omega
      subst this
      refine ⟨k + 1, ⟨⟨by omega, ?_⟩, by omega⟩, ?_⟩
      · intro j hj hji m hm
        by_cases e : j = k
        · subst e; exact hq m hm (by omega)
        · exact hp j hj (by omega) m hm
      · conv => whnf
        (refine And.intro (And.intro (by with_unfolding_all rfl) (by intro q h; cases h)) ?_; refine And.intro ?_ (And.intro ?_ ?_) <;> (conv => whnf) <;> (repeat' (first | exact True.intro | (with_reducible exact rfl) | exact (rfl : List.replicate 0 PV.bad = []) | ((with_reducible refine And.intro ?_ ?_) <;> (first | (with_reducible exact wkV_same _ rfl) | exact wkV_pt rfl rfl | exact wkV_ow rfl rfl rfl | (refine wkV_ow rfl rfl ?_) | (refine wkV_sc (congrArg (Value.int .i64) ?_)) | (refine wkV_sc (congrArg Value.bool ?_)) | exact wkV_ls rfl | ((refine wkV_cl ?_); conv => whnf) | ((refine wkV_tu ?_); conv => whnf) | ((refine wkV_ag ?_); conv => whnf) | (conv => whnf))))))
        all_goals first | exact w1 (by omega) | rfl
  · simp only [List.length_map] at h
    have : i = l.length := by omega
    subst this
    refine exit_plain rfl ?_
    rw [dec_true]
    intro i hi k hk
    exact hp i hi hi k hk

/-- The reference's entry. -/
theorem c_rAtR (r : Rft) (sr : r.small) (hh : lkB r = true) (i : Int) (hi : isI i) : Ctr Try.prog 127 [.ag r.hard.enc, iv i] (.tu [.ag (entE r i).enc, bv (entAt r.hard i).isSome]) [] := by
  obtain ⟨h1, h2⟩ := lkB_iff.1 hh
  have := sr.log
  exact c_rAt r.hard sr.len h1 (by omega) i hi

theorem c_rBoth (a b : Rft) (sa : a.small) (sb : b.small) (ha : lkB a = true) (hb : lkB b = true) (i : Int) (hi : isI i) : Ctr Try.prog 222 [.ag a.enc, .ag b.enc, iv i] (.tu [.ag (entE a i).enc, .ag (entE b i).enc, bv ((entAt a.hard i).isSome && (entAt b.hard i).isSome)]) [] := by
  refine spec_of_body mixed Try.func222 rfl (by kernel_rfl) (by kernel_rfl) ?_; conv => whnf
  ((try ((refine Exists.intro none ?_); (conv => whnf))); first | ((with_reducible refine call_by (c_rAtR a sa ha i hi) ?_); conv => whnf))
  ((try ((refine Exists.intro none ?_); (conv => whnf))); first | ((with_reducible refine call_by (c_rAtR b sb hb i hi) ?_); conv => whnf))
  cases h1 : (entAt a.hard i).isSome
  · conv => whnf
    exact exit_plain rfl rfl
  · conv => whnf
    exact exit_plain rfl rfl

theorem entAt_in {r : Rft} {k : Int} (h1 : r.hard.base < k) (h2 : k ≤ lastR r) : (entAt r.hard k).isSome = true := by
  rw [entAt_some h1 (by unfold lastR at h2; omega)]; rfl

def agreeP (a b : Rft) : Prop := bothAll (agreeE a b) a b

set_option maxHeartbeats 2000000 in
theorem c_rPair (a b : Rft) (sa : a.small) (sb : b.small) : Ctr Try.prog 181 [.ag a.enc, .ag b.enc] (.tu [bv (dec (matchP a b)), bv (dec (agreeP a b))]) [] := by
  refine spec_of_body mixed Try.func181 rfl (by kernel_rfl) (by kernel_rfl) ?_; conv => whnf
  ((try ((refine Exists.intro none ?_); (conv => whnf))); first | ((with_reducible refine call_by (c_logged a) ?_); conv => whnf))
  ((first | (with_reducible refine split_dec (fun h => ?_) (fun h => ?_)) | (with_reducible refine split_beq (fun h => ?_) (fun h => ?_)) | (with_reducible refine split_bne (fun h => ?_) (fun h => ?_)) | (with_reducible refine split_not (fun h => ?_) (fun h => ?_)) | (with_reducible refine split_beqS (fun h => ?_) (fun h => ?_)) | (with_reducible refine split_intro (fun h => ?_) (fun h => ?_))) <;> conv => whnf)
  · exact exit_plain rfl (by rw [dec_true, dec_true]; intro h1; rw [h] at h1; cases h1; intro h1; rw [h] at h1; cases h1)
  have ha := h
  ((try ((refine Exists.intro none ?_); (conv => whnf))); first | ((with_reducible refine call_by (c_logged b) ?_); conv => whnf))
  ((first | (with_reducible refine split_dec (fun h => ?_) (fun h => ?_)) | (with_reducible refine split_beq (fun h => ?_) (fun h => ?_)) | (with_reducible refine split_bne (fun h => ?_) (fun h => ?_)) | (with_reducible refine split_not (fun h => ?_) (fun h => ?_)) | (with_reducible refine split_beqS (fun h => ?_) (fun h => ?_)) | (with_reducible refine split_intro (fun h => ?_) (fun h => ?_))) <;> conv => whnf)
  · exact exit_plain rfl (by rw [dec_true, dec_true]; intro _ h1; rw [h] at h1; cases h1; intro _ h1; rw [h] at h1; cases h1)
  have hb := h
  have ra := lkB_iff.1 ha
  have rb := lkB_iff.1 hb
  have la := sa.log
  have lb := sb.log
  obtain ⟨lo, hlo⟩ : ∃ lo : Int, lo = max a.hard.base b.hard.base + 1 := ⟨_, rfl⟩
  obtain ⟨hi, hhi⟩ : ∃ hi : Int, hi = min (lastR a) (lastR b) := ⟨_, rfl⟩
  have elo : IntKind.i64.wrap ((if a.hard.base < b.hard.base then b.hard.base else a.hard.base) + 1) = lo := by
    rw [wrap_id (by split <;> omega) (by split <;> omega)]; split <;> omega
  have ea : IntKind.i64.wrap (a.hard.base + (a.hard.log.length : Int)) = lastR a := wrap_id (by omega) (by omega)
  have eb : IntKind.i64.wrap (b.hard.base + (b.hard.log.length : Int)) = lastR b := wrap_id (by omega) (by omega)
  have ehi : (if IntKind.i64.wrap (b.hard.base + (b.hard.log.length : Int)) < IntKind.i64.wrap (a.hard.base + (a.hard.log.length : Int)) then IntKind.i64.wrap (b.hard.base + (b.hard.log.length : Int)) else IntKind.i64.wrap (a.hard.base + (a.hard.log.length : Int))) = hi := by
    rw [ea, eb]; split <;> omega
  have hin : ∀ n, lo ≤ n → n ≤ hi → isI n ∧ (entAt a.hard n).isSome = true ∧ (entAt b.hard n).isSome = true := by
    intro n n1 n2
    exact ⟨by unfold isI; unfold lastR at hhi; omega, entAt_in (by omega) (by omega), entAt_in (by omega) (by omega)⟩
  refine tri_forB mixed (by kernel_rfl) (fun x : Int × Int => lo ≤ x.1 ∧ (x.1 ≤ hi + 1 ∨ x.1 = lo) ∧ (x.2 = 0 ∨ (lo ≤ x.2 ∧ x.2 < x.1 ∧ oneT a b x.2)) ∧ ∀ m, lo ≤ m → m < x.1 → oneT a b m → m ≤ x.2) (fun x => [(11, iv x.1), (10, iv x.2), (8, iv lo), (9, iv hi)]) (fun _ => [(2, a.enc), (3, b.enc)]) [] (fun x => (hi + 1 - x.1).toNat) (lo, 0) ⟨Int.le_refl _, .inr rfl, .inl rfl, fun m m1 m2 => absurd m1 (by omega)⟩ ?_ ?_
  · conv => whnf
    (refine And.intro (And.intro (by with_unfolding_all rfl) (by intro q h; cases h)) ?_; refine And.intro ?_ (And.intro ?_ ?_) <;> (conv => whnf) <;> (repeat' (first | exact True.intro | (with_reducible exact rfl) | exact (rfl : List.replicate 0 PV.bad = []) | ((with_reducible refine And.intro ?_ ?_) <;> (first | (with_reducible exact wkV_same _ rfl) | exact wkV_pt rfl rfl | exact wkV_ow rfl rfl rfl | (refine wkV_ow rfl rfl ?_) | (refine wkV_sc (congrArg (Value.int .i64) ?_)) | (refine wkV_sc (congrArg Value.bool ?_)) | exact wkV_ls rfl | ((refine wkV_cl ?_); conv => whnf) | ((refine wkV_tu ?_); conv => whnf) | ((refine wkV_ag ?_); conv => whnf) | (conv => whnf))))))
    all_goals first | rfl | exact elo | (simp only [List.length_map]; exact ehi)
  rintro ⟨n, top⟩ ⟨hn1, hn2, ht1, ht2⟩
  simp only at hn1 hn2 ht1 ht2
  conv => whnf
  ((first | (with_reducible refine split_dec (fun h => ?_) (fun h => ?_)) | (with_reducible refine split_beq (fun h => ?_) (fun h => ?_)) | (with_reducible refine split_bne (fun h => ?_) (fun h => ?_)) | (with_reducible refine split_not (fun h => ?_) (fun h => ?_)) | (with_reducible refine split_beqS (fun h => ?_) (fun h => ?_)) | (with_reducible refine split_intro (fun h => ?_) (fun h => ?_))) <;> conv => whnf)
  · obtain ⟨g1, g2, g3⟩ := hin n hn1 h
    have hc := c_rBoth a b sa sb ha hb n g1
    rw [g2, g3] at hc
    ((try ((refine Exists.intro none ?_); (conv => whnf))); first | ((with_reducible refine call_by (hc) ?_); conv => whnf))
    ((first | (with_reducible refine split_dec (fun h => ?_) (fun h => ?_)) | (with_reducible refine split_beq (fun h => ?_) (fun h => ?_)) | (with_reducible refine split_bne (fun h => ?_) (fun h => ?_)) | (with_reducible refine split_not (fun h => ?_) (fun h => ?_)) | (with_reducible refine split_beqS (fun h => ?_) (fun h => ?_)) | (with_reducible refine split_intro (fun h => ?_) (fun h => ?_))) <;> conv => whnf)
    · refine ⟨(n + 1, n), ⟨⟨by omega, .inl (by omega), .inr ⟨hn1, by omega, h⟩, fun m m1 m2 _ => by omega⟩, by omega⟩, ?_⟩
      conv => whnf
      (refine And.intro (And.intro (by with_unfolding_all rfl) (by intro q h; cases h)) ?_; refine And.intro ?_ (And.intro ?_ ?_) <;> (conv => whnf) <;> (repeat' (first | exact True.intro | (with_reducible exact rfl) | exact (rfl : List.replicate 0 PV.bad = []) | ((with_reducible refine And.intro ?_ ?_) <;> (first | (with_reducible exact wkV_same _ rfl) | exact wkV_pt rfl rfl | exact wkV_ow rfl rfl rfl | (refine wkV_ow rfl rfl ?_) | (refine wkV_sc (congrArg (Value.int .i64) ?_)) | (refine wkV_sc (congrArg Value.bool ?_)) | exact wkV_ls rfl | ((refine wkV_cl ?_); conv => whnf) | ((refine wkV_tu ?_); conv => whnf) | ((refine wkV_ag ?_); conv => whnf) | (conv => whnf))))))
      all_goals first | rfl | (exact wrap_id (by omega) (by unfold lastR at hhi; omega))
    · refine ⟨(n + 1, top), ⟨⟨by omega, .inl (by omega), ?_, ?_⟩, by omega⟩, ?_⟩
      · rcases ht1 with e | ⟨e1, e2, e3⟩
        · exact .inl e
        · exact .inr ⟨e1, by omega, e3⟩
      · intro m m1 m2 m3
        by_cases e : m = n
        · subst e; exact absurd m3 h
        · exact ht2 m m1 (by omega) m3
      conv => whnf
      (refine And.intro (And.intro (by with_unfolding_all rfl) (by intro q h; cases h)) ?_; refine And.intro ?_ (And.intro ?_ ?_) <;> (conv => whnf) <;> (repeat' (first | exact True.intro | (with_reducible exact rfl) | exact (rfl : List.replicate 0 PV.bad = []) | ((with_reducible refine And.intro ?_ ?_) <;> (first | (with_reducible exact wkV_same _ rfl) | exact wkV_pt rfl rfl | exact wkV_ow rfl rfl rfl | (refine wkV_ow rfl rfl ?_) | (refine wkV_sc (congrArg (Value.int .i64) ?_)) | (refine wkV_sc (congrArg Value.bool ?_)) | exact wkV_ls rfl | ((refine wkV_cl ?_); conv => whnf) | ((refine wkV_tu ?_); conv => whnf) | ((refine wkV_ag ?_); conv => whnf) | (conv => whnf))))))
      all_goals first | rfl | (exact wrap_id (by omega) (by unfold lastR at hhi; omega))
  · have hend : ∀ m, lo ≤ m → m ≤ hi → oneT a b m → m ≤ top := fun m m1 m2 m3 => ht2 m m1 (by omega) m3
    have htop : top = 0 ∨ (lo ≤ top ∧ top ≤ hi ∧ oneT a b top) := by
      rcases ht1 with e | ⟨e1, e2, e3⟩
      · exact .inl e
      · exact .inr ⟨e1, by omega, e3⟩
    clear ht1 ht2 hn1 hn2
    refine tri_forB mixed (by kernel_rfl) (fun x : Int × Bool × Bool => lo ≤ x.1 ∧ (x.1 ≤ hi + 1 ∨ x.1 = lo) ∧ (x.2.1 = true ↔ ∀ m, lo ≤ m → m < x.1 → (entE a m).nrm = (entE b m).nrm ∨ top < m) ∧ (x.2.2 = true ↔ ∀ m, lo ≤ m → m < x.1 → (entE a m).nrm = (entE b m).nrm ∨ min a.commit b.commit < m)) (fun x => [(15, iv x.1), (6, bv x.2.1), (7, bv x.2.2), (8, iv lo), (9, iv hi), (10, iv top)]) (fun _ => [(2, a.enc), (3, b.enc)]) [] (fun x => (hi + 1 - x.1).toNat) (lo, true, true) ⟨Int.le_refl _, .inr rfl, by simp; intro m m1 m2; omega, by simp; intro m m1 m2; omega⟩ ?_ ?_
    · conv => whnf
      (refine And.intro (And.intro (by with_unfolding_all rfl) (by intro q h; cases h)) ?_; refine And.intro ?_ (And.intro ?_ ?_) <;> (conv => whnf) <;> (repeat' (first | exact True.intro | (with_reducible exact rfl) | exact (rfl : List.replicate 0 PV.bad = []) | ((with_reducible refine And.intro ?_ ?_) <;> (first | (with_reducible exact wkV_same _ rfl) | exact wkV_pt rfl rfl | exact wkV_ow rfl rfl rfl | (refine wkV_ow rfl rfl ?_) | (refine wkV_sc (congrArg (Value.int .i64) ?_)) | (refine wkV_sc (congrArg Value.bool ?_)) | exact wkV_ls rfl | ((refine wkV_cl ?_); conv => whnf) | ((refine wkV_tu ?_); conv => whnf) | ((refine wkV_ag ?_); conv => whnf) | (conv => whnf))))))
      all_goals rfl
    rintro ⟨n, mt, ag⟩ ⟨hn1, hn2, hm, hg⟩
    simp only at hn1 hn2 hm hg
    conv => whnf
    ((first | (with_reducible refine split_dec (fun h => ?_) (fun h => ?_)) | (with_reducible refine split_beq (fun h => ?_) (fun h => ?_)) | (with_reducible refine split_bne (fun h => ?_) (fun h => ?_)) | (with_reducible refine split_not (fun h => ?_) (fun h => ?_)) | (with_reducible refine split_beqS (fun h => ?_) (fun h => ?_)) | (with_reducible refine split_intro (fun h => ?_) (fun h => ?_))) <;> conv => whnf)
    · obtain ⟨g1, g2, g3⟩ := hin n hn1 h
      have hc := c_rBoth a b sa sb ha hb n g1
      rw [g2, g3] at hc
      ((try ((refine Exists.intro none ?_); (conv => whnf))); first | ((with_reducible refine call_by (hc) ?_); conv => whnf))
      ((try ((refine Exists.intro none ?_); (conv => whnf))); first | ((with_reducible refine call_by (c_kEntry (entE a n) (entE b n)) ?_); conv => whnf))
      have next : ∀ (t : Bool) (p : Int → Prop), (t = true ↔ ∀ m, lo ≤ m → m < n → p m) → ∀ t' : Bool, (t' = true ↔ t = true ∧ p n) → (t' = true ↔ ∀ m, lo ≤ m → m < n + 1 → p m) := by
        intro t p h1 t' h2
        rw [h2, h1]
        constructor
        · rintro ⟨h3, h4⟩ m m1 m2
          by_cases e : m = n
          · subst e; exact h4
          · exact h3 m m1 (by omega)
        · intro h3; exact ⟨fun m m1 m2 => h3 m m1 (by omega), h3 n hn1 (by omega)⟩
      have emin : (if b.commit < a.commit then b.commit else a.commit) = min a.commit b.commit := by split <;> omega
      ((first | (with_reducible refine split_dec (fun h => ?_) (fun h => ?_)) | (with_reducible refine split_beq (fun h => ?_) (fun h => ?_)) | (with_reducible refine split_bne (fun h => ?_) (fun h => ?_)) | (with_reducible refine split_not (fun h => ?_) (fun h => ?_)) | (with_reducible refine split_beqS (fun h => ?_) (fun h => ?_)) | (with_reducible refine split_intro (fun h => ?_) (fun h => ?_))) <;> conv => whnf)
      · have hne : ¬ (entE a n).nrm = (entE b n).nrm := of_decide_eq_false h
        have n1 := next mt _ hm (mt && decide (top < n)) (by simp [hne])
        have n2 := next ag _ hg (ag && decide (min a.commit b.commit < n)) (by simp [hne])
        cases mt <;> (conv => whnf) <;> cases ag <;> (conv => whnf)
        all_goals refine ⟨(n + 1, _, _), ⟨⟨by omega, .inl (by omega), n1, n2⟩, by omega⟩, ?_⟩
        all_goals conv => whnf
        all_goals (refine And.intro (And.intro (by with_unfolding_all rfl) (by intro q h; cases h)) ?_; refine And.intro ?_ (And.intro ?_ ?_) <;> (conv => whnf) <;> (repeat' (first | exact True.intro | (with_reducible exact rfl) | exact (rfl : List.replicate 0 PV.bad = []) | ((with_reducible refine And.intro ?_ ?_) <;> (first | (with_reducible exact wkV_same _ rfl) | exact wkV_pt rfl rfl | exact wkV_ow rfl rfl rfl | (refine wkV_ow rfl rfl ?_) | (refine wkV_sc (congrArg (Value.int .i64) ?_)) | (refine wkV_sc (congrArg Value.bool ?_)) | exact wkV_ls rfl | ((refine wkV_cl ?_); conv => whnf) | ((refine wkV_tu ?_); conv => whnf) | ((refine wkV_ag ?_); conv => whnf) | (conv => whnf))))))
        all_goals first | rfl | (exact wrap_id (by omega) (by unfold lastR at hhi; omega)) | (rw [emin]; rfl)
      · have he : (entE a n).nrm = (entE b n).nrm := of_decide_eq_true h
        refine ⟨(n + 1, mt, ag), ⟨⟨by omega, .inl (by omega), next mt _ hm mt ⟨fun e => ⟨e, .inl he⟩, And.left⟩, next ag _ hg ag ⟨fun e => ⟨e, .inl he⟩, And.left⟩⟩, by omega⟩, ?_⟩
        conv => whnf
        (refine And.intro (And.intro (by with_unfolding_all rfl) (by intro q h; cases h)) ?_; refine And.intro ?_ (And.intro ?_ ?_) <;> (conv => whnf) <;> (repeat' (first | exact True.intro | (with_reducible exact rfl) | exact (rfl : List.replicate 0 PV.bad = []) | ((with_reducible refine And.intro ?_ ?_) <;> (first | (with_reducible exact wkV_same _ rfl) | exact wkV_pt rfl rfl | exact wkV_ow rfl rfl rfl | (refine wkV_ow rfl rfl ?_) | (refine wkV_sc (congrArg (Value.int .i64) ?_)) | (refine wkV_sc (congrArg Value.bool ?_)) | exact wkV_ls rfl | ((refine wkV_cl ?_); conv => whnf) | ((refine wkV_tu ?_); conv => whnf) | ((refine wkV_ag ?_); conv => whnf) | (conv => whnf))))))
        all_goals first | rfl | (exact wrap_id (by omega) (by unfold lastR at hhi; omega))
    · have hm2 : mt = dec (matchP a b) := by
        rw [Bool.eq_iff_iff, hm, dec_eq_true]
        constructor
        · rintro q _ _ k k1 k2 k3 k4 ⟨m, m1, m2, m3, m4⟩
          rcases q k (by omega) (by omega) with q | q
          · exact q
          · have := hend m (by omega) (by omega) m4
            omega
        · intro q k k1 k2
          by_cases e : top < k
          · exact .inr e
          · left
            refine q ha hb k (by omega) (by omega) (by omega) (by omega) ⟨top, by omega, ?_⟩
            rcases htop with e2 | ⟨e1, e2, e3⟩
            · omega
            · exact ⟨by omega, by omega, e3⟩
      have hg2 : ag = dec (agreeP a b) := by
        rw [Bool.eq_iff_iff, hg, dec_eq_true]
        constructor
        · intro q _ _ k k1 k2 k3 k4
          simp only [agreeE, Bool.or_eq_true, decide_eq_true_eq]
          rcases q k (by omega) (by omega) with q | q
          · exact .inr (.inr q)
          · by_cases e : a.commit < k
            · exact .inl e
            · exact .inr (.inl (by omega))
        · intro q k k1 k2
          have := q ha hb k (by omega) (by omega) (by omega) (by omega)
          simp only [agreeE, Bool.or_eq_true, decide_eq_true_eq] at this
          rcases this with q | q | q
          · exact .inr (by omega)
          · exact .inr (by omega)
          · exact .inl q
      exact exit_plain rfl (by rw [hm2, hg2])
end Go.Proofs
