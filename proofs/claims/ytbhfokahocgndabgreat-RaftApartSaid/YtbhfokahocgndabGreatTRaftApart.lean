import Derived.Test.YtbhfokahocgndabGreatC1
import Derived.Test.YtbhfokahocgndabGreatR8
import Derived.Test.YtbhfokahocgndabGreatR3
import Derived.Test.YtbhfokahocgndabGreatI1
import Derived.Test.YtbhfokahocgndabGreatK4
import Derived.Test.YtbhfokahocgndabGreatC5
/- The law: a leader that hears of nobody leads no more after twelve ticks. (genT5.py prints this) -/
set_option linter.unusedSimpArgs false
set_option linter.unusedVariables false
namespace Go.Proofs
open Go.Pv
set_option maxRecDepth 100000
def EndR (c : Conf) (k0 D t : Nat) (s : Svn) : Prop :=
 (t + 1 < D ∧ Rnd c k0 D (t + 1) 0 s [] ∧ ∀ v, v < 7 → (s.at v).role = 0) ∨ ((s.at k0).role = 3 ∧ (s.at k0).hard = hdC c 1 k0 [et 1] ∧ (s.at k0).commit = 1 ∧ Prp c k0 1 (s.at k0) ∧ ∀ v, v < 7 → v ≠ k0 → (s.at v).role = 0)
theorem end_last {c : Conf} (hc : Cok c) {k0 D t : Nat} (hk0 : k0 < 7) {n ph : Nat} {s : Svn} (hp : Ply n s []) (h : CP c k0 ph s []) : EndR c k0 D t s := by
 obtain ⟨a1, a2, a3, a4⟩ := cp_end hc hk0 h
 have hr := hp.rp k0 hk0
 refine .inr ⟨a1, a2, a4, ⟨⟨hr.rgt, hr.id, hr.led, by rw [a2]; show 1 ≤ 8 * 1; decide, by rw [a2]; show (0 : Int) ≤ 2000 * ((1 : Nat) : Int); decide, by rw [a2]; show 0 ≤ 1; decide⟩, a1, by rw [a2]; exact zki (.inr rfl), a3⟩, fun v hv hne => (h.oth v hv hne).role⟩
theorem own_C (c : Conf) (vo : Int) : fits (hdC c 1 vo [et 1]) 1 (hdC c 1 vo [et 1]).term = true := rfl
set_option maxHeartbeats 64000000 in
theorem l_RaftApart (c : Conf) (l : List VCall) (hlm : l.length ≤ maxLen) : Ctr Tryz.prog 5 [.ag c.enc, .sl 10 (l.map VCall.enc)] (bv true) [] := by
 have kc := zk4 c
 have kv := zf7 c
 have kn := c_rCount (zbb c)
 have kb := c_begin18 c
 have hml : (l.map VCall.enc).length = l.length := List.length_map ..
 cases hcf : confB c with
 | false =>
  rw [hcf] at kc
  refine sBody Tryz.func5 ?_; conv => whnf
  ((try (refine Exists.intro none ?_; conv => whnf)); (with_reducible refine zaa (kc) ?_); conv => whnf)
  exact zab rfl rfl
 | true =>
 rw [hcf] at kc
 by_cases h40 : ((l.map VCall.enc).length : Int) > 40
 ·refine sBody Tryz.func5 ?_; conv => whnf
  ((try (refine Exists.intro none ?_; conv => whnf)); (with_reducible refine zaa (kc) ?_); conv => whnf)
  (first | refine tYes ?_ | refine tNo ?_)
  conv => whnf
  exact zab rfl rfl
 by_cases hlt2 : count (zbb c) < 2
 ·refine sBody Tryz.func5 ?_; conv => whnf
  ((try (refine Exists.intro none ?_; conv => whnf)); (with_reducible refine zaa (kc) ?_); conv => whnf)
  (first | refine tYes ?_ | refine tNo ?_)
  conv => whnf
  ((try (refine Exists.intro none ?_; conv => whnf)); (with_reducible refine zaa (kv) ?_); conv => whnf)
  ((try (refine Exists.intro none ?_; conv => whnf)); (with_reducible refine zaa (kn) ?_); conv => whnf)
  (first | refine tYes ?_ | refine tNo ?_)
  conv => whnf
  exact zab rfl rfl
 have h2 : 2 ≤ count (zbb c) := by omega
 have hl40 : l.length ≤ 40 := by omega
 have hok := (confB_iff c).1 hcf
 obtain ⟨k0, D, F⟩ := first_ex hok
 have hD := F.d6
 have hk0 := F.k7
 have hvk0 : tb (zbb c) k0 = true := by rw [tb_or, F.full]; rfl
 refine zh0 mixed Tryz.func5 rfl (by kernel_rfl) (by kernel_rfl) ?_
 refine tSeq ?_
 conv => whnf
 refine tSeq ?_
 conv => whnf
 ((try (refine Exists.intro none ?_; conv => whnf)); (with_reducible refine zaa (kc) ?_); conv => whnf)
 (first | refine tYes ?_ | refine tNo ?_)
 conv => whnf
 ((try (refine Exists.intro none ?_; conv => whnf)); (with_reducible refine zaa (kv) ?_); conv => whnf)
 ((try (refine Exists.intro none ?_; conv => whnf)); (with_reducible refine zaa (kn) ?_); conv => whnf)
 (first | refine tYes ?_ | refine tNo ?_)
 conv => whnf
 refine tSeq ?_
 conv => whnf
 ((refine Exists.intro (some ([(6, 500)], [], [(0, 600)])) ?_); (conv => whnf); first | ((with_reducible refine zao (kb) ?_); conv => whnf))
 refine tCut (fun _ : Unit => False) (fun _ => []) (fun _ => []) (fun _ => []) ?_ ?_
 ·conv => whnf
  refine zeg (fun x : Nat × Svn × List My => x.1 + 1 ≤ D ∧ Rnd c k0 D x.1 0 x.2.1 x.2.2) (fun x => [(6, iv x.1)]) (fun x => [(2, c.enc), (500, someV x.2.1 (.ow 1000 0 (x.2.2.map My.enc).length))]) (fun x => [(1000, some (false, 16, x.2.2.map My.enc))]) [(1000, 600)] (fun x => D - x.1) (0, begS c 7, []) ⟨by show 0 + 1 ≤ D; omega, rd_begin hcf F⟩ ?_ ?_
  ·conv => whnf
   exact wkD
  rintro ⟨t, s, ms⟩ ⟨ht, hR⟩
  have ht : t + 1 ≤ D := ht
  have hR : Rnd c k0 D t 0 s ms := hR
  conv => whnf
  refine tSeq ?_
  conv => whnf
  have h400 : (t : Int) < 400 := by omega
  (first | refine tYes ?_ | refine tNo ?_)
  conv => whnf
  refine zfj ?_
  refine zgu ?_
  -- all tick
  refine tCut (fun x : Svn × List My => Rnd c k0 D t 7 x.1 x.2) (fun _ => []) (fun x => [(2, c.enc), (500, someV x.1 (.ow 1000 0 (x.2.map My.enc).length))]) (fun x => [(1000, some (false, 16, x.2.map My.enc))]) ?_ ?_
  ·conv => whnf
   refine zeg (fun x : Nat × Svn × List My => x.1 ≤ 7 ∧ Rnd c k0 D t x.1 x.2.1 x.2.2) (fun x => [(7, iv x.1)]) (fun x => [(2, c.enc), (500, someV x.2.1 (.ow 1000 0 (x.2.2.map My.enc).length))]) (fun x => [(1000, some (false, 16, x.2.2.map My.enc))]) [(1000, 1000)] (fun x => 7 - x.1) (0, s, ms) ⟨Nat.zero_le _, hR⟩ ?_ ?_
   ·conv => whnf
    exact wkD
   clear hR
   rintro ⟨k, s, ms⟩ ⟨hk, hR⟩
   have hk : k ≤ 7 := hk
   have hR : Rnd c k0 D t k s ms := hR
   conv => whnf
   refine tSeq ?_
   conv => whnf
   by_cases hk7 : k < 7
   ·(first | refine tYes ?_ | refine tNo ?_)
    conv => whnf
    obtain ⟨s', ms', hR', hdo⟩ := rd_tick h2 F hR hk7 ht
    refine zfj ?_
    refine pwS ?_
    conv => whnf
    rcases hdo with ⟨e, hd⟩ | hd | hd
    ·refine Exists.intro (some ([(1000000, 500)], [(1000000, 1000)], [])) ?_
     conv => whnf
     refine cFast (r2 := bv true) (wb := [(500, someV s' (.ow 1000 0 (ms'.map My.enc).length))]) hd ?_
     conv => whnf
     refine pwS ?_
     conv => whnf
     refine ⟨(k + 1, s', ms'), [(1000, 1000)], ⟨⟨by show k + 1 ≤ 7; omega, hR'⟩, by show 7 - (k + 1) < 7 - k; omega⟩, ?_⟩
     conv => whnf
     exact wkD
    ·refine Exists.intro (some ([(1000000, 500)], [(1000000, 1000)], [(1, 1002)])) ?_
     conv => whnf
     refine cFast (r2 := bv true) (wb := [(500, someV s' (.ow 1002 0 (ms'.map My.enc).length))]) hd ?_
     conv => whnf
     refine pwS ?_
     conv => whnf
     refine ⟨(k + 1, s', ms'), [(1000, 1002)], ⟨⟨by show k + 1 ≤ 7; omega, hR'⟩, by show 7 - (k + 1) < 7 - k; omega⟩, ?_⟩
     conv => whnf
     exact wkD
    ·refine Exists.intro (some ([(1000000, 500)], [(1000000, 1000)], [(1, 1002)])) ?_
     conv => whnf
     refine cFast (r2 := bv true) (wb := [(500, someV s' (.ow 1002 0 (ms'.map My.enc).length))]) hd ?_
     conv => whnf
     refine pwS ?_
     conv => whnf
     refine ⟨(k + 1, s', ms'), [(1000, 1002)], ⟨⟨by show k + 1 ≤ 7; omega, hR'⟩, by show 7 - (k + 1) < 7 - k; omega⟩, ?_⟩
     conv => whnf
     exact wkD
   ·(first | refine tYes ?_ | refine tNo ?_)
    conv => whnf
    obtain rfl : k = 7 := by omega
    refine ⟨(s, ms), [(1000, 1000)], hR, ?_⟩
    conv => whnf
    exact wkD
  clear hR
  rintro ⟨s, ms⟩ hR
  have hR : Rnd c k0 D t 7 s ms := hR
  conv => whnf
  -- what is under way is taken
  refine tCut (fun x : Svn => EndR c k0 D t x) (fun _ => []) (fun x => [(2, c.enc), (500, someV x (.ow 1000 0 (([] : List My).map My.enc).length))]) (fun x => [(1000, some (false, 16, ([] : List My).map My.enc))]) ?_ ?_
  ·conv => whnf
   by_cases hlast : t + 1 = D
   ·obtain ⟨hcp, hw⟩ := rd_last h2 F hR hlast
    refine zeg (fun x : Nat × Nat × Svn × List My => x.1 + wL x.2.2.2 + rsv x.2.1 ≤ 42 ∧ CP c k0 x.2.1 x.2.2.1 x.2.2.2 ∧ Ply (7 * t + 7 + x.1) x.2.2.1 x.2.2.2) (fun x => [(8, iv x.1)]) (fun x => [(2, c.enc), (500, someV x.2.2.1 (.ow 1000 0 (x.2.2.2.map My.enc).length))]) (fun x => [(1000, some (false, 16, x.2.2.2.map My.enc))]) [(1000, 1000)] (fun x => 42 - x.1) (0, 1, s, ms) ⟨by show 0 + wL ms + rsv 1 ≤ 42; omega, hcp, hR.ply⟩ ?_ ?_
    ·conv => whnf
     exact wkD
    clear hcp hw hR
    rintro ⟨j, ph, s, ms⟩ ⟨hj, hcp, hp⟩
    have hj : j + wL ms + rsv ph ≤ 42 := hj
    have hcp : CP c k0 ph s ms := hcp
    have hp : Ply (7 * t + 7 + j) s ms := hp
    conv => whnf
    refine tSeq ?_
    conv => whnf
    have h100 : (j : Int) < 100 := by omega
    (first | refine tYes ?_ | refine tNo ?_)
    conv => whnf
    cases ms with
    | nil =>
     conv => whnf
     refine ⟨s, [(1000, 1000)], end_last hok hk0 hp hcp, ?_⟩
     conv => whnf
     exact wkD
    | cons y ms =>
     have hpos : ((List.map My.enc (y :: ms)).length : Int) > 0 := by rw [List.length_map, List.length_cons]; omega
     (first | refine tYes ?_ | refine tNo ?_)
     conv => whnf
     obtain ⟨s', ms', ph', hp', hcp', hw', hdo⟩ := cp_step h2 hk0 (by omega) hp hcp (W := 41 - j) (by omega) (by omega)
     have hj41 : j ≤ 41 := by
      have := wM_pos y
      have e : wL (y :: ms) = wM y + wL ms := rfl
      omega
     refine zfj ?_
     refine pwS ?_
     conv => whnf
     rcases hdo with ⟨e, hd⟩ | hd | hd
     ·refine Exists.intro (some ([(1000000, 500)], [(1000000, 1000)], [])) ?_
      conv => whnf
      refine cFast (r2 := bv true) (wb := [(500, someV s' (.ow 1000 0 (ms'.map My.enc).length))]) hd ?_
      conv => whnf
      refine pwS ?_
      conv => whnf
      refine ⟨(j + 1, ph', s', ms'), [(1000, 1000)], ⟨⟨by show j + 1 + wL ms' + rsv ph' ≤ 42; omega, hcp', by rw [show 7 * t + 7 + (j + 1) = 7 * t + 7 + j + 1 by omega]; exact hp'⟩, by show 42 - (j + 1) < 42 - j; omega⟩, ?_⟩
      conv => whnf
      exact wkD
     ·refine Exists.intro (some ([(1000000, 500)], [(1000000, 1000)], [(1, 1002)])) ?_
      conv => whnf
      refine cFast (r2 := bv true) (wb := [(500, someV s' (.ow 1002 0 (ms'.map My.enc).length))]) hd ?_
      conv => whnf
      refine pwS ?_
      conv => whnf
      refine ⟨(j + 1, ph', s', ms'), [(1000, 1002)], ⟨⟨by show j + 1 + wL ms' + rsv ph' ≤ 42; omega, hcp', by rw [show 7 * t + 7 + (j + 1) = 7 * t + 7 + j + 1 by omega]; exact hp'⟩, by show 42 - (j + 1) < 42 - j; omega⟩, ?_⟩
      conv => whnf
      exact wkD
     ·refine Exists.intro (some ([(1000000, 500)], [(1000000, 1000)], [(1, 1002)])) ?_
      conv => whnf
      refine cFast (r2 := bv true) (wb := [(500, someV s' (.ow 1002 0 (ms'.map My.enc).length))]) hd ?_
      conv => whnf
      refine pwS ?_
      conv => whnf
      refine ⟨(j + 1, ph', s', ms'), [(1000, 1002)], ⟨⟨by show j + 1 + wL ms' + rsv ph' ≤ 42; omega, hcp', by rw [show 7 * t + 7 + (j + 1) = 7 * t + 7 + j + 1 by omega]; exact hp'⟩, by show 42 - (j + 1) < 42 - j; omega⟩, ?_⟩
      conv => whnf
      exact wkD
   ·obtain ⟨hR', e, h0⟩ := rd_next hR (by omega)
    subst e
    refine zeg (fun _ : Unit => True) (fun _ => [(8, iv 0)]) (fun _ => [(2, c.enc), (500, someV s (.ow 1000 0 (([] : List My).map My.enc).length))]) (fun _ => [(1000, some (false, 16, ([] : List My).map My.enc))]) [(1000, 1000)] (fun _ => 0) () True.intro ?_ ?_
    ·conv => whnf
     exact wkD
    rintro _ _
    conv => whnf
    refine tSeq ?_
    conv => whnf
    refine ⟨s, [(1000, 1000)], .inl ⟨by omega, hR', h0⟩, ?_⟩
    conv => whnf
    exact wkD
  clear hR
  intro s hE
  have hE : EndR c k0 D t s := hE
  conv => whnf
  refine pwS ?_
  conv => whnf
  refine zeg (fun k : Nat => k ≤ 7 ∧ ((s.at k0).role = 3 → k ≤ k0)) (fun k => [(9, iv k)]) (fun _ => [(2, c.enc), (500, someV s (.ow 1000 0 (([] : List My).map My.enc).length))]) (fun _ => [(1000, some (false, 16, ([] : List My).map My.enc))]) [(1000, 1000)] (fun k => 7 - k) 0 ⟨Nat.zero_le _, fun _ => Nat.zero_le _⟩ ?_ ?_
  ·conv => whnf
   exact wkD
  rintro k ⟨hk, hkk⟩
  have hk : k ≤ 7 := hk
  have hkk : (s.at k0).role = 3 → k ≤ k0 := hkk
  conv => whnf
  refine tSeq ?_
  conv => whnf
  by_cases hk7 : k < 7
  ·(first | refine tYes ?_ | refine tNo ?_)
   conv => whnf
   refine zfj ?_
   refine zgu ?_
   by_cases hr3 : (s.at k).role = 3
   ·obtain ⟨rfl, q1, q2, q3⟩ : k = k0 ∧ (s.at k0).hard = hdC c 1 k0 [et 1] ∧ (s.at k0).commit = 1 ∧ Prp c k0 1 (s.at k0) := by
      rcases hE with ⟨_, _, h0⟩ | ⟨g1, g2, g3, g4, g5⟩
      ·have := h0 k hk7
       omega
      ·refine ⟨?_, g2, g3, g4⟩
       apply Classical.byContradiction
       intro hne
       have := g5 k hk7 hne
       omega
    have kk := c_rKind c k
    have kfull : ((kind c k).toList == (ByteArray.mk #[102, 117, 108, 108]).toList) = true := by rw [zh5, zbs hk7]; exact F.full
    have ko := c_rOwn (s.at k).hard (by rw [q1]; exact zam (by show 1 ≤ 4294967296; decide)) (by rw [q1]; exact Int.le_refl _) (by rw [q1]; show (0 : Int) + 1 < 9223372036854775808; decide) (s.at k).commit (by rw [q2]; unfold isI; decide)
    have kof : fits (s.at k).hard (s.at k).commit (s.at k).hard.term = true := by rw [q1, q2]; exact own_C c k
    rw [kof] at ko
    have kap := c_apart hok h2 hk7 hvk0 (s.at k) q3 l hl40
    clear hE hkk q1 q2 q3 kof
    refine pwS ?_
    conv => whnf
    rcases (by omega : k = 0 ∨ k = 1 ∨ k = 2 ∨ k = 3 ∨ k = 4 ∨ k = 5 ∨ k = 6) with rfl | rfl | rfl | rfl | rfl | rfl | rfl
    ·rw [show s.at 0 = s.r0 from rfl] at *
     refine ⟨⟨(by decide : (0 : Int) ≤ 0), (by decide : (0 : Int) < 7)⟩, ?_⟩
     conv => whnf
     (first | refine tYes ?_ | refine tNo ?_)
     conv => whnf
     ((try (refine Exists.intro none ?_; conv => whnf)); (with_reducible refine zaa (kk) ?_); conv => whnf)
     (first | refine tYes ?_ | refine tNo ?_)
     conv => whnf
     refine ⟨⟨(by decide : (0 : Int) ≤ 0), (by decide : (0 : Int) < 7)⟩, ?_⟩
     conv => whnf
     refine ⟨⟨(by decide : (0 : Int) ≤ 0), (by decide : (0 : Int) < 7)⟩, ?_⟩
     conv => whnf
     ((try (refine Exists.intro none ?_; conv => whnf)); (with_reducible refine zaa (ko) ?_); conv => whnf)
     refine ⟨⟨(by decide : (0 : Int) ≤ 0), (by decide : (0 : Int) < 7)⟩, ?_⟩
     conv => whnf
     ((try (refine Exists.intro none ?_; conv => whnf)); (with_reducible refine zaa (kap) ?_); conv => whnf)
     ((try (refine Exists.intro none ?_; conv => whnf)); (with_reducible refine zaa (zdx) ?_); conv => whnf)
     exact zab rfl rfl
    ·rw [show s.at 1 = s.r1 from rfl] at *
     refine ⟨⟨(by decide : (0 : Int) ≤ 1), (by decide : (1 : Int) < 7)⟩, ?_⟩
     conv => whnf
     (first | refine tYes ?_ | refine tNo ?_)
     conv => whnf
     ((try (refine Exists.intro none ?_; conv => whnf)); (with_reducible refine zaa (kk) ?_); conv => whnf)
     (first | refine tYes ?_ | refine tNo ?_)
     conv => whnf
     refine ⟨⟨(by decide : (0 : Int) ≤ 1), (by decide : (1 : Int) < 7)⟩, ?_⟩
     conv => whnf
     refine ⟨⟨(by decide : (0 : Int) ≤ 1), (by decide : (1 : Int) < 7)⟩, ?_⟩
     conv => whnf
     ((try (refine Exists.intro none ?_; conv => whnf)); (with_reducible refine zaa (ko) ?_); conv => whnf)
     refine ⟨⟨(by decide : (0 : Int) ≤ 1), (by decide : (1 : Int) < 7)⟩, ?_⟩
     conv => whnf
     ((try (refine Exists.intro none ?_; conv => whnf)); (with_reducible refine zaa (kap) ?_); conv => whnf)
     ((try (refine Exists.intro none ?_; conv => whnf)); (with_reducible refine zaa (zdx) ?_); conv => whnf)
     exact zab rfl rfl
    ·rw [show s.at 2 = s.r2 from rfl] at *
     refine ⟨⟨(by decide : (0 : Int) ≤ 2), (by decide : (2 : Int) < 7)⟩, ?_⟩
     conv => whnf
     (first | refine tYes ?_ | refine tNo ?_)
     conv => whnf
     ((try (refine Exists.intro none ?_; conv => whnf)); (with_reducible refine zaa (kk) ?_); conv => whnf)
     (first | refine tYes ?_ | refine tNo ?_)
     conv => whnf
     refine ⟨⟨(by decide : (0 : Int) ≤ 2), (by decide : (2 : Int) < 7)⟩, ?_⟩
     conv => whnf
     refine ⟨⟨(by decide : (0 : Int) ≤ 2), (by decide : (2 : Int) < 7)⟩, ?_⟩
     conv => whnf
     ((try (refine Exists.intro none ?_; conv => whnf)); (with_reducible refine zaa (ko) ?_); conv => whnf)
     refine ⟨⟨(by decide : (0 : Int) ≤ 2), (by decide : (2 : Int) < 7)⟩, ?_⟩
     conv => whnf
     ((try (refine Exists.intro none ?_; conv => whnf)); (with_reducible refine zaa (kap) ?_); conv => whnf)
     ((try (refine Exists.intro none ?_; conv => whnf)); (with_reducible refine zaa (zdx) ?_); conv => whnf)
     exact zab rfl rfl
    ·rw [show s.at 3 = s.r3 from rfl] at *
     refine ⟨⟨(by decide : (0 : Int) ≤ 3), (by decide : (3 : Int) < 7)⟩, ?_⟩
     conv => whnf
     (first | refine tYes ?_ | refine tNo ?_)
     conv => whnf
     ((try (refine Exists.intro none ?_; conv => whnf)); (with_reducible refine zaa (kk) ?_); conv => whnf)
     (first | refine tYes ?_ | refine tNo ?_)
     conv => whnf
     refine ⟨⟨(by decide : (0 : Int) ≤ 3), (by decide : (3 : Int) < 7)⟩, ?_⟩
     conv => whnf
     refine ⟨⟨(by decide : (0 : Int) ≤ 3), (by decide : (3 : Int) < 7)⟩, ?_⟩
     conv => whnf
     ((try (refine Exists.intro none ?_; conv => whnf)); (with_reducible refine zaa (ko) ?_); conv => whnf)
     refine ⟨⟨(by decide : (0 : Int) ≤ 3), (by decide : (3 : Int) < 7)⟩, ?_⟩
     conv => whnf
     ((try (refine Exists.intro none ?_; conv => whnf)); (with_reducible refine zaa (kap) ?_); conv => whnf)
     ((try (refine Exists.intro none ?_; conv => whnf)); (with_reducible refine zaa (zdx) ?_); conv => whnf)
     exact zab rfl rfl
    ·rw [show s.at 4 = s.r4 from rfl] at *
     refine ⟨⟨(by decide : (0 : Int) ≤ 4), (by decide : (4 : Int) < 7)⟩, ?_⟩
     conv => whnf
     (first | refine tYes ?_ | refine tNo ?_)
     conv => whnf
     ((try (refine Exists.intro none ?_; conv => whnf)); (with_reducible refine zaa (kk) ?_); conv => whnf)
     (first | refine tYes ?_ | refine tNo ?_)
     conv => whnf
     refine ⟨⟨(by decide : (0 : Int) ≤ 4), (by decide : (4 : Int) < 7)⟩, ?_⟩
     conv => whnf
     refine ⟨⟨(by decide : (0 : Int) ≤ 4), (by decide : (4 : Int) < 7)⟩, ?_⟩
     conv => whnf
     ((try (refine Exists.intro none ?_; conv => whnf)); (with_reducible refine zaa (ko) ?_); conv => whnf)
     refine ⟨⟨(by decide : (0 : Int) ≤ 4), (by decide : (4 : Int) < 7)⟩, ?_⟩
     conv => whnf
     ((try (refine Exists.intro none ?_; conv => whnf)); (with_reducible refine zaa (kap) ?_); conv => whnf)
     ((try (refine Exists.intro none ?_; conv => whnf)); (with_reducible refine zaa (zdx) ?_); conv => whnf)
     exact zab rfl rfl
    ·rw [show s.at 5 = s.r5 from rfl] at *
     refine ⟨⟨(by decide : (0 : Int) ≤ 5), (by decide : (5 : Int) < 7)⟩, ?_⟩
     conv => whnf
     (first | refine tYes ?_ | refine tNo ?_)
     conv => whnf
     ((try (refine Exists.intro none ?_; conv => whnf)); (with_reducible refine zaa (kk) ?_); conv => whnf)
     (first | refine tYes ?_ | refine tNo ?_)
     conv => whnf
     refine ⟨⟨(by decide : (0 : Int) ≤ 5), (by decide : (5 : Int) < 7)⟩, ?_⟩
     conv => whnf
     refine ⟨⟨(by decide : (0 : Int) ≤ 5), (by decide : (5 : Int) < 7)⟩, ?_⟩
     conv => whnf
     ((try (refine Exists.intro none ?_; conv => whnf)); (with_reducible refine zaa (ko) ?_); conv => whnf)
     refine ⟨⟨(by decide : (0 : Int) ≤ 5), (by decide : (5 : Int) < 7)⟩, ?_⟩
     conv => whnf
     ((try (refine Exists.intro none ?_; conv => whnf)); (with_reducible refine zaa (kap) ?_); conv => whnf)
     ((try (refine Exists.intro none ?_; conv => whnf)); (with_reducible refine zaa (zdx) ?_); conv => whnf)
     exact zab rfl rfl
    ·rw [show s.at 6 = s.r6 from rfl] at *
     refine ⟨⟨(by decide : (0 : Int) ≤ 6), (by decide : (6 : Int) < 7)⟩, ?_⟩
     conv => whnf
     (first | refine tYes ?_ | refine tNo ?_)
     conv => whnf
     ((try (refine Exists.intro none ?_; conv => whnf)); (with_reducible refine zaa (kk) ?_); conv => whnf)
     (first | refine tYes ?_ | refine tNo ?_)
     conv => whnf
     refine ⟨⟨(by decide : (0 : Int) ≤ 6), (by decide : (6 : Int) < 7)⟩, ?_⟩
     conv => whnf
     refine ⟨⟨(by decide : (0 : Int) ≤ 6), (by decide : (6 : Int) < 7)⟩, ?_⟩
     conv => whnf
     ((try (refine Exists.intro none ?_; conv => whnf)); (with_reducible refine zaa (ko) ?_); conv => whnf)
     refine ⟨⟨(by decide : (0 : Int) ≤ 6), (by decide : (6 : Int) < 7)⟩, ?_⟩
     conv => whnf
     ((try (refine Exists.intro none ?_; conv => whnf)); (with_reducible refine zaa (kap) ?_); conv => whnf)
     ((try (refine Exists.intro none ?_; conv => whnf)); (with_reducible refine zaa (zdx) ?_); conv => whnf)
     exact zab rfl rfl
   ·refine pwS ?_
    conv => whnf
    have hE := hE
    rcases (by omega : k = 0 ∨ k = 1 ∨ k = 2 ∨ k = 3 ∨ k = 4 ∨ k = 5 ∨ k = 6) with rfl | rfl | rfl | rfl | rfl | rfl | rfl
    ·rw [show s.at 0 = s.r0 from rfl] at *
     refine ⟨⟨(by decide : (0 : Int) ≤ 0), (by decide : (0 : Int) < 7)⟩, ?_⟩
     conv => whnf
     (first | refine tYes ?_ | refine tNo ?_)
     conv => whnf
     refine pwS ?_
     conv => whnf
     refine ⟨0 + 1, [(1000, 1000)], ⟨⟨by show 0 + 1 ≤ 7; omega, fun e => by
      have := hkk e
      rcases (by omega : 0 < k0 ∨ k0 = 0) with g | g
      ·exact g
      ·subst g; exact absurd e hr3⟩, by show 7 - (0 + 1) < 7 - 0; omega⟩, ?_⟩
     conv => whnf
     exact wkD
    ·rw [show s.at 1 = s.r1 from rfl] at *
     refine ⟨⟨(by decide : (0 : Int) ≤ 1), (by decide : (1 : Int) < 7)⟩, ?_⟩
     conv => whnf
     (first | refine tYes ?_ | refine tNo ?_)
     conv => whnf
     refine pwS ?_
     conv => whnf
     refine ⟨1 + 1, [(1000, 1000)], ⟨⟨by show 1 + 1 ≤ 7; omega, fun e => by
      have := hkk e
      rcases (by omega : 1 < k0 ∨ k0 = 1) with g | g
      ·exact g
      ·subst g; exact absurd e hr3⟩, by show 7 - (1 + 1) < 7 - 1; omega⟩, ?_⟩
     conv => whnf
     exact wkD
    ·rw [show s.at 2 = s.r2 from rfl] at *
     refine ⟨⟨(by decide : (0 : Int) ≤ 2), (by decide : (2 : Int) < 7)⟩, ?_⟩
     conv => whnf
     (first | refine tYes ?_ | refine tNo ?_)
     conv => whnf
     refine pwS ?_
     conv => whnf
     refine ⟨2 + 1, [(1000, 1000)], ⟨⟨by show 2 + 1 ≤ 7; omega, fun e => by
      have := hkk e
      rcases (by omega : 2 < k0 ∨ k0 = 2) with g | g
      ·exact g
      ·subst g; exact absurd e hr3⟩, by show 7 - (2 + 1) < 7 - 2; omega⟩, ?_⟩
     conv => whnf
     exact wkD
    ·rw [show s.at 3 = s.r3 from rfl] at *
     refine ⟨⟨(by decide : (0 : Int) ≤ 3), (by decide : (3 : Int) < 7)⟩, ?_⟩
     conv => whnf
     (first | refine tYes ?_ | refine tNo ?_)
     conv => whnf
     refine pwS ?_
     conv => whnf
     refine ⟨3 + 1, [(1000, 1000)], ⟨⟨by show 3 + 1 ≤ 7; omega, fun e => by
      have := hkk e
      rcases (by omega : 3 < k0 ∨ k0 = 3) with g | g
      ·exact g
      ·subst g; exact absurd e hr3⟩, by show 7 - (3 + 1) < 7 - 3; omega⟩, ?_⟩
     conv => whnf
     exact wkD
    ·rw [show s.at 4 = s.r4 from rfl] at *
     refine ⟨⟨(by decide : (0 : Int) ≤ 4), (by decide : (4 : Int) < 7)⟩, ?_⟩
     conv => whnf
     (first | refine tYes ?_ | refine tNo ?_)
     conv => whnf
     refine pwS ?_
     conv => whnf
     refine ⟨4 + 1, [(1000, 1000)], ⟨⟨by show 4 + 1 ≤ 7; omega, fun e => by
      have := hkk e
      rcases (by omega : 4 < k0 ∨ k0 = 4) with g | g
      ·exact g
      ·subst g; exact absurd e hr3⟩, by show 7 - (4 + 1) < 7 - 4; omega⟩, ?_⟩
     conv => whnf
     exact wkD
    ·rw [show s.at 5 = s.r5 from rfl] at *
     refine ⟨⟨(by decide : (0 : Int) ≤ 5), (by decide : (5 : Int) < 7)⟩, ?_⟩
     conv => whnf
     (first | refine tYes ?_ | refine tNo ?_)
     conv => whnf
     refine pwS ?_
     conv => whnf
     refine ⟨5 + 1, [(1000, 1000)], ⟨⟨by show 5 + 1 ≤ 7; omega, fun e => by
      have := hkk e
      rcases (by omega : 5 < k0 ∨ k0 = 5) with g | g
      ·exact g
      ·subst g; exact absurd e hr3⟩, by show 7 - (5 + 1) < 7 - 5; omega⟩, ?_⟩
     conv => whnf
     exact wkD
    ·rw [show s.at 6 = s.r6 from rfl] at *
     refine ⟨⟨(by decide : (0 : Int) ≤ 6), (by decide : (6 : Int) < 7)⟩, ?_⟩
     conv => whnf
     (first | refine tYes ?_ | refine tNo ?_)
     conv => whnf
     refine pwS ?_
     conv => whnf
     refine ⟨6 + 1, [(1000, 1000)], ⟨⟨by show 6 + 1 ≤ 7; omega, fun e => by
      have := hkk e
      rcases (by omega : 6 < k0 ∨ k0 = 6) with g | g
      ·exact g
      ·subst g; exact absurd e hr3⟩, by show 7 - (6 + 1) < 7 - 6; omega⟩, ?_⟩
     conv => whnf
     exact wkD
  ·(first | refine tYes ?_ | refine tNo ?_)
   conv => whnf
   rcases hE with ⟨g1, g2, g3⟩ | ⟨g1, _⟩
   ·refine pwS ?_
    conv => whnf
    refine ⟨(t + 1, s, []), [(1000, 1000)], ⟨⟨by show t + 1 + 1 ≤ D; omega, g2⟩, by show D - (t + 1) < D - t; omega⟩, ?_⟩
    conv => whnf
    exact wkD
   ·exact absurd (hkk g1) (by omega)
 ·rintro _ h
  exact h.elim
theorem arg_Calls {p : PV} (h : ArgOf Tryz.prog 65 p) : ∃ xs : List VCall, p = .sl 10 (xs.map VCall.enc) ∧ xs.length ≤ maxLen := by
 obtain ⟨rows, e, hl, hr⟩ := ty_slice (e := 31) 10 (by kernel_rfl) (by kernel_rfl) (by decide) (argOf_one (by kernel_rfl) h)
 cases e
 obtain ⟨xs, rfl, hx⟩ := rows_map (f := VCall.enc) (ok := VCall.ok) fun r hr' => ty_VCall (hr r hr')
 exact ⟨xs, rfl, by simpa using hl⟩
theorem told_RaftApart (qs : List PV) (h : zjq Tryz.prog [23, 65] qs) : Ctr Tryz.prog 5 qs (bv true) [] := by
 obtain ⟨p1, qs, rfl, h1, h⟩ := zip h
 obtain ⟨p2, qs, rfl, h2, h⟩ := zip h
 obtain rfl := argsOf_nil h
 obtain ⟨c, rfl, _⟩ := arg_Conf h1
 obtain ⟨l, rfl, hl⟩ := arg_Calls h2
 exact l_RaftApart c l hl
end Go.Proofs
