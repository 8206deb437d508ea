import Derived.Test.YtbhfokahocgndabGreatC1
import Derived.Test.YtbhfokahocgndabGreatR8
import Derived.Test.YtbhfokahocgndabGreatR3
import Derived.Test.YtbhfokahocgndabGreatC24
import Derived.Test.YtbhfokahocgndabGreatPvV4
/- The law: what an audit finds of replicas that send one another messages. (genT6.py prints this) -/
set_option linter.unusedSimpArgs false
set_option linter.unusedVariables false
namespace Go.Proofs
open Go.Pv
set_option maxRecDepth 100000
theorem zyn (L : List Ent) (hl : L.length ≤ 4294967) (r : Rft) (s : r.small) (hl2 : r.hard.log.length ≤ 4294967) (hE : mrgE L r = 0) :
    Ctr Tryz.prog 25 [.sl 16 (L.map Ent.enc), .ag r.enc] (.tu [.sl 16 ((mrgO L r (mrgJ L r)).map Ent.enc), iv 0]) [] := by
 refine (zvu L hl r s hl2 hE).frz (zad ?_)
 exact ⟨zb9 (.head _) rfl, zaf _ rfl, rfl⟩
theorem zuo {n : Nat} {s : Svn} {ms : List My} (h : Ply n s ms) (hn : n ≤ 200) : ∀ r ∈ svl s, r.small := by
 intro r hr
 obtain ⟨j, hj, e⟩ := List.mem_iff_getElem.1 hr
 rw [zue] at e
 rw [← e]
 exact (h.rp j hj).small hn
theorem zl5 (s : Svn) : ∀ r ∈ (svl s).map Rft.enc, r.length = 40 := by
 intro r hr
 obtain ⟨x, _, rfl⟩ := List.mem_map.1 hr
 rfl
abbrev rA26 : Rft := { rz with hard := { rz.hard with term := 3 }, role := 3 }
abbrev rB26 : Rft := { rz with hard := { rz.hard with term := 4 }, role := 3 }
theorem zuk : Ctr Tryz.prog 28 [] (bv true) [] := by
 have h1 := zj4 [rA26, rB26] (by decide)
 rw [show dec (zep leadF [rA26, rB26]) = true from zbm (by
  intro i hi k hk
  have hi' : i < 2 := hi
  obtain rfl : i = 1 := by omega
  obtain rfl : k = 0 := by omega
  rfl)] at h1
 have h2 := zj4 [rA26, rA26] (by decide)
 rw [show dec (zep leadF [rA26, rA26]) = false from zc1 (by
  intro h
  have := h 1 (by decide) 0 (by decide)
  revert this
  simp [leadF])] at h2
 refine sBody Tryz.func28 ?_; conv => whnf
 ((try ((refine Exists.intro none ?_); (conv => whnf))); refine zaz (h1) (by (repeat' (first | exact zay | exact zax | refine zas ?_ ?_ | refine zat ?_ ?_ | exact SubV.refl _ | exact za7 | (with_reducible exact zbg rfl) | refine zbf ?_ | refine zbi ?_ | refine zbh ?_))) ?_; conv => whnf)
 ((try ((refine Exists.intro none ?_); (conv => whnf))); refine zaz (h2) (by (repeat' (first | exact zay | exact zax | refine zas ?_ ?_ | refine zat ?_ ?_ | exact SubV.refl _ | exact za7 | (with_reducible exact zbg rfl) | refine zbf ?_ | refine zbi ?_ | refine zbh ?_))) ?_; conv => whnf)
 exact zab rfl rfl
set_option maxHeartbeats 64000000 in
theorem zny (c : Conf) (l : List Act) (hlm : l.length ≤ maxLen) : Ctr Tryz.prog 6 [.ag c.enc, .sl 17 (l.map Act.enc)] (bv true) [] := by
 have kc := zhl c
 have kb := zxb c
 have hml : (l.map Act.enc).length = l.length := List.length_map ..
 by_cases h6 : ((l.map Act.enc).length : Int) > 600
 ·refine sBody Tryz.func6 ?_; conv => whnf
  (first | refine tYes ?_ | refine tNo ?_)
  conv => whnf
  exact zab rfl rfl
 cases hcf : confB c with
 | false =>
  rw [hcf] at kc
  refine sBody Tryz.func6 ?_; conv => whnf
  (first | refine tYes ?_ | refine tNo ?_)
  conv => whnf
  ((try (refine Exists.intro none ?_; conv => whnf)); (with_reducible refine zaa (kc) ?_); conv => whnf)
  exact zab rfl rfl
 | true =>
 rw [hcf] at kc
 refine zqc mixed Tryz.func6 rfl (by kernel_rfl) (by kernel_rfl) ?_
 refine tSeq ?_
 conv => whnf
 refine tSeq ?_
 conv => whnf
 (first | refine tYes ?_ | refine tNo ?_)
 conv => whnf
 ((try (refine Exists.intro none ?_; conv => whnf)); (with_reducible refine zaa (kc) ?_); conv => whnf)
 refine tSeq ?_
 conv => whnf
 ((refine Exists.intro (some ([(6, 500)], [], [(0, 600)])) ?_); (conv => whnf); first | ((with_reducible refine ziu (kb) ?_); conv => whnf))
 refine tSeq ?_
 conv => whnf
 refine tSeq ?_
 conv => whnf
 refine ze8 7 1001 1 rfl rfl ?_
 conv => whnf
 refine tCut (fun L : List Ent => L.length ≤ 401600 ∧ zd5 c L = true) (fun L => [(6, .sl 16 (L.map Ent.enc)), (5, .bad), (9, .bad), (25, .bad)]) (fun _ => [(2, c.enc)]) (fun _ => []) ?_ ?_
 ·conv => whnf
  refine zhd (fun x : Nat × Svn × List My × List Ent × List Int => x.1 ≤ l.length ∧ x.1 ≤ 120 ∧ AP c x.1 x.2.1 x.2.2.1 x.2.2.2.1 x.2.2.2.2) (fun x => [(8, iv x.1), (6, .sl 16 (x.2.2.2.1.map Ent.enc)), (7, .ow 1001 0 (x.2.2.2.2.map encI).length)]) (fun x => [(2, c.enc), (500, someV x.2.1 (.ow 1000 0 (x.2.2.1.map My.enc).length))]) (fun x => [(1000, some (false, 16, x.2.2.1.map My.enc)), (1001, some (false, 1, x.2.2.2.2.map encI))]) [(1000, 600), (1001, 1001)] (fun x => l.length - x.1) (0, begS c 7, [], [], []) ⟨Nat.zero_le _, Nat.zero_le _, zy3 hcf⟩ ?_ ?_
  ·conv => whnf
   exact wkD
  rintro ⟨i, s, ms, L, ts⟩ ⟨hi, hi2, hA⟩
  have hi : i ≤ l.length := hi
  have hi2 : i ≤ 120 := hi2
  have hA : AP c i s ms L ts := hA
  conv => whnf
  refine tSeq ?_
  conv => whnf
  have leave : ∀ h2 : True, L.length ≤ 401600 ∧ zd5 c L = true := fun _ => ⟨hA.len, hA.confs⟩
  (refine tSp (fun h => ?_) (fun h => ?_) <;> conv => whnf)
  ·have hlt : i < l.length := by rw [hml] at h; omega
   clear h
   (refine tSp (fun h => ?_) (fun h => ?_) <;> conv => whnf)
   ·have h120 : i < 120 := by omega
    clear h
    refine zmw ?_
    refine zja ?_
    have hrow := zbp (f := Act.enc) hlt
    obtain ⟨s', ms', hst, hdo⟩ := do_ex hA.ply (by omega) (l[i]'hlt)
    generalize l[i]'hlt = b at *
    refine tSeq ?_
    conv => whnf
    refine ⟨by omega, _, hrow, ?_⟩
    conv => whnf
    refine ⟨⟨by decide, by decide⟩, ?_⟩
    conv => whnf
    by_cases h16 : (IntKind.u64.wrap b.doo).tmod 18 = 16
    ·(first | refine tYes ?_ | refine tNo ?_)
     conv => whnf
     refine pwS ?_
     conv => whnf
     refine ⟨(i + 1, s, ms, L, ts), [(1000, 1000), (1001, 1001)], ⟨⟨by show i + 1 ≤ l.length; omega, by show i + 1 ≤ 120; omega, hA.mono (Nat.le_succ i)⟩, by show l.length - (i + 1) < l.length - i; omega⟩, ?_⟩
     conv => whnf
     exact wkD
    ·(first | refine tYes ?_ | refine tNo ?_)
     conv => whnf
     have hA := hA.step (by omega) hst h16
     refine tCut (fun _ : Unit => True) (fun _ => []) (fun _ => [(2, c.enc), (500, someV s' (.ow 1000 0 (ms'.map My.enc).length))]) (fun _ => [(1000, some (false, 16, ms'.map My.enc)), (1001, some (false, 1, ts.map encI))]) ?_ ?_
     ·conv => whnf
      refine ⟨by omega, _, hrow, ?_⟩
      conv => whnf
      rcases hdo with ⟨e, hd⟩ | hd | hd
      ·refine Exists.intro (some ([(1000000, 500)], [(1000000, 1000)], [])) ?_
       conv => whnf
       refine cFast (r2 := bv true) (wb := [(500, someV s' (.ow 1000 0 (ms'.map My.enc).length))]) hd ?_
       conv => whnf
       refine ⟨(), [(1000, 1000), (1001, 1001)], True.intro, ?_⟩
       conv => whnf
       exact wkD
      ·refine Exists.intro (some ([(1000000, 500)], [(1000000, 1000)], [(1, 1002)])) ?_
       conv => whnf
       refine cFast (r2 := bv true) (wb := [(500, someV s' (.ow 1002 0 (ms'.map My.enc).length))]) hd ?_
       conv => whnf
       refine ⟨(), [(1000, 1002), (1001, 1001)], True.intro, ?_⟩
       conv => whnf
       exact wkD
      ·refine Exists.intro (some ([(1000000, 500)], [(1000000, 1000)], [(1, 1002)])) ?_
       conv => whnf
       refine cFast (r2 := bv true) (wb := [(500, someV s' (.ow 1002 0 (ms'.map My.enc).length))]) hd ?_
       conv => whnf
       refine ⟨(), [(1000, 1002), (1001, 1001)], True.intro, ?_⟩
       conv => whnf
       exact wkD
     rintro _ _
     clear hdo hst
     have hsm := zuo hA.ply (by omega)
     obtain ⟨q1, q2, q3⟩ := hA.audit
     have k1 := zj4 (svl s') (zag (by show 7 ≤ 4294967296; decide))
     have k2 := zwv (svl s') (zag (by show 7 ≤ 4294967296; decide)) hsm
     have k3 := zzb (svl s') (zag (by show 7 ≤ 4294967296; decide)) hsm
     rw [zbm q1] at k1
     rw [zbm q2] at k2
     rw [zbm q3] at k3
     have k1 := k1.onBox (rest := [.ow 1000000 0 (ms'.map My.enc).length]) (ob := someO (ms'.map My.enc)) (zl5 s') rfl
     have k2 := k2.onBox (rest := [.ow 1000000 0 (ms'.map My.enc).length]) (ob := someO (ms'.map My.enc)) (zl5 s') rfl
     have k3 := k3.onBox (rest := [.ow 1000000 0 (ms'.map My.enc).length]) (ob := someO (ms'.map My.enc)) (zl5 s') rfl
     clear q1 q2 q3
     clear hrow
     generalize s' = s at *
     generalize ms' = ms at *
     conv => whnf
     refine tSeq ?_
     conv => whnf
     refine tSeq ?_
     conv => whnf
     refine Exists.intro (some ([(1000000, 500)], [(1000000, 1000)], [])) ?_
     conv => whnf
     refine cFast (r2 := bv true) (wb := [(500, someV s (.ow 1000 0 (ms.map My.enc).length))]) k1 ?_
     conv => whnf
     refine Exists.intro (some ([(1000000, 500)], [(1000000, 1000)], [])) ?_
     conv => whnf
     refine cFast (r2 := bv true) (wb := [(500, someV s (.ow 1000 0 (ms.map My.enc).length))]) k2 ?_
     conv => whnf
     refine Exists.intro (some ([(1000000, 500)], [(1000000, 1000)], [])) ?_
     conv => whnf
     refine cFast (r2 := bv true) (wb := [(500, someV s (.ow 1000 0 (ms.map My.enc).length))]) k3 ?_
     conv => whnf
     clear k1 k2 k3
     -- merged one behind the other
     refine tCut (fun x : List Ent × List Int => AP c (i + 1) s ms x.1 x.2) (fun x => [(6, .sl 16 (x.1.map Ent.enc)), (7, .ow 1001 0 (x.2.map encI).length)]) (fun _ => [(2, c.enc), (500, someV s (.ow 1000 0 (ms.map My.enc).length))]) (fun x => [(1000, some (false, 16, ms.map My.enc)), (1001, some (false, 1, x.2.map encI))]) ?_ ?_
     ·conv => whnf
      refine zhd (fun x : Nat × List Ent × List Int => x.1 ≤ 7 ∧ AP c (i + 1) s ms x.2.1 x.2.2) (fun x => [(10, iv x.1), (6, .sl 16 (x.2.1.map Ent.enc)), (7, .ow 1001 0 (x.2.2.map encI).length)]) (fun _ => [(2, c.enc), (500, someV s (.ow 1000 0 (ms.map My.enc).length))]) (fun x => [(1000, some (false, 16, ms.map My.enc)), (1001, some (false, 1, x.2.2.map encI))]) [(1000, 1000), (1001, 1001)] (fun x => 7 - x.1) (0, L, ts) ⟨Nat.zero_le _, hA⟩ ?_ ?_
      ·conv => whnf
       exact wkD
      clear hA
      rintro ⟨k, L, ts⟩ ⟨hk, hA⟩
      have hk : k ≤ 7 := hk
      have hA : AP c (i + 1) s ms L ts := hA
      conv => whnf
      refine tSeq ?_
      conv => whnf
      (refine tSp (fun h => ?_) (fun h => ?_) <;> conv => whnf)
      ·have hk7 : k < 7 := by omega
       clear h
       obtain ⟨e1, hA', hle⟩ := hA.merge (by omega) hk7
       have hsm := (hA.ply.rp k hk7).small (by omega)
       have hlg := (hA.ply.rp k hk7).log
       have hL := hA.len
       have hL' := hA'.len
       have htl := hA.tlen
       have km := zyn L (by omega) (s.at k) hsm (by omega) e1
       generalize mrgO L (s.at k) (mrgJ L (s.at k)) = L' at *
       refine zmw ?_
       refine zja ?_
       refine tCut (fun _ : Unit => True) (fun _ => [(11, .sl 16 (L'.map Ent.enc)), (12, iv 0)]) (fun _ => [(2, c.enc), (500, someV s (.ow 1000 0 (ms.map My.enc).length))]) (fun _ => [(1000, some (false, 16, ms.map My.enc)), (1001, some (false, 1, ts.map encI))]) ?_ ?_
       ·conv => whnf
        clear hA hA' hsm hlg e1
        refine ⟨⟨Int.natCast_nonneg _, Int.ofNat_lt.2 hk7⟩, ?_⟩
        conv => whnf
        refine at_rft hk7 (by first | (show 0 + 0 + ((k : Nat) : Int).toNat * 40 = k * 40; omega)) ?_
        conv => whnf
        ((try (refine Exists.intro none ?_; conv => whnf)); (with_reducible refine zaa (km) ?_); conv => whnf)
        (refine tNew0 ?_; conv => whnf)
        refine ⟨(), [(1000, 1000), (1001, 1001)], True.intro, ?_⟩
        conv => whnf
        exact wkD
       rintro _ _
       conv => whnf
       refine tSeq ?_
       conv => whnf
       refine tCut (fun _ : Unit => True) (fun _ => [(7, .ow 1001 0 ((ts ++ List.replicate (L'.length - L.length) (s.at k).hard.term).map encI).length)]) (fun _ => [(2, c.enc), (500, someV s (.ow 1000 0 (ms.map My.enc).length))]) (fun _ => [(1000, some (false, 16, ms.map My.enc)), (1001, some (false, 1, (ts ++ List.replicate (L'.length - L.length) (s.at k).hard.term).map encI))]) ?_ ?_
       ·conv => whnf
        refine zhd (fun n : Nat => L.length ≤ n ∧ n ≤ L'.length) (fun n => [(13, iv n), (7, .ow 1001 0 ((ts ++ List.replicate (n - L.length) (s.at k).hard.term).map encI).length)]) (fun _ => [(2, c.enc), (500, someV s (.ow 1000 0 (ms.map My.enc).length))]) (fun n => [(1000, some (false, 16, ms.map My.enc)), (1001, some (false, 1, (ts ++ List.replicate (n - L.length) (s.at k).hard.term).map encI))]) [(1000, 1000), (1001, 1001)] (fun n => L'.length - n) L.length ⟨Nat.le_refl _, hle⟩ ?_ ?_
        ·rw [Nat.sub_self, List.replicate_zero, List.append_nil]
         conv => whnf
         (refine wkx ?_; refine ⟨?_, ?_, ?_⟩ <;> (conv => whnf) <;> repeat' first | exact wkc | (with_reducible refine And.intro ?_ ?_) <;> first | exact wks | refine wko ?_ | refine wki ?_ | refine wkb ?_ | (refine zal ?_; conv => whnf) | (refine zad ?_; conv => whnf) | (refine zae ?_; conv => whnf) | conv => whnf)
         all_goals first | rfl | exact .inl rfl | (show ((L.map Ent.enc).length : Int) = (L.length : Int); rw [List.length_map]) | exact .head _ | exact .tail _ (.head _) | trace_state
        rintro n ⟨hn1, hn2⟩
        have hn1 : L.length ≤ n := hn1
        have hn2 : n ≤ L'.length := hn2
        conv => whnf
        refine tSeq ?_
        conv => whnf
        have hLm : (L'.map Ent.enc).length = L'.length := List.length_map ..
        (refine tSp (fun h => ?_) (fun h => ?_) <;> conv => whnf)
        ·have hn3 : n < L'.length := by rw [hLm] at h; omega
         clear h
         have es : ts ++ List.replicate (n + 1 - L.length) (s.at k).hard.term = (ts ++ List.replicate (n - L.length) (s.at k).hard.term) ++ [(s.at k).hard.term] := by
          rw [show n + 1 - L.length = (n - L.length) + 1 by omega, List.replicate_succ', List.append_assoc]
         have hql : ((ts ++ List.replicate (n - L.length) (s.at k).hard.term).map encI).length ≤ 4294967 := by
          rw [List.length_map, List.length_append, List.length_replicate, htl]; omega
         generalize htq : ts ++ List.replicate (n - L.length) (s.at k).hard.term = tq at *
         refine pwS ?_
         conv => whnf
         clear hA hA' hsm hlg e1 km
         refine ⟨⟨Int.natCast_nonneg _, Int.ofNat_lt.2 hk7⟩, ?_⟩
         conv => whnf
         refine at_term hk7 (by first | (show 0 + 0 + ((k : Nat) : Int).toNat * 40 + 1 = k * 40 + 1; omega) | (show 0 + 0 + ((k : Nat) : Int).toNat * 40 + 0 + 1 = k * 40 + 1; omega) | (show 0 + 0 + ((k : Nat) : Int).toNat * 40 + (0 + 1) = k * 40 + 1; omega)) ?_
         conv => whnf
         (refine And.intro rfl ?_; (conv => whnf); refine And.intro (And.intro (And.intro (by kernel_rfl) (And.intro (by simp) (And.intro (small (by simp only [List.length_cons, List.length_nil]; omega) (by kernel_rfl)) (And.intro (zag (by simp only [List.length_cons, List.length_nil]; omega)) (by intro r hr; rw [List.mem_singleton.1 hr]; rfl))))) (And.intro (by decide) rfl)) ?_; conv => whnf)
         refine ⟨n + 1, [(1000, 1000), (1001, 1632)], ⟨⟨by omega, by omega⟩, by omega⟩, ?_⟩
         rw [es]
         conv => whnf
         exact wkD
        ·have hn3 : n = L'.length := by rw [hLm] at h; omega
         clear h
         refine ⟨(), [(1000, 1000), (1001, 1001)], True.intro, ?_⟩
         rw [hn3]
         conv => whnf
         exact wkD
       rintro _ _
       generalize ts ++ List.replicate (L'.length - L.length) (s.at k).hard.term = ts' at *
       conv => whnf
       refine pwS ?_
       conv => whnf
       refine pwS ?_
       conv => whnf
       refine ⟨(k + 1, L', ts'), [(1000, 1000), (1001, 1001)], ⟨⟨by show k + 1 ≤ 7; omega, hA'⟩, by show 7 - (k + 1) < 7 - k; omega⟩, ?_⟩
       conv => whnf
       exact wkD
      ·have hk7 : k = 7 := by omega
       clear h
       refine ⟨(L, ts), [(1000, 1000), (1001, 1001)], hA, ?_⟩
       conv => whnf
       exact wkD
     clear hA
     rintro ⟨L, ts⟩ hA
     have hA : AP c (i + 1) s ms L ts := hA
     have hL := hA.len
     have htl := hA.tlen
     conv => whnf
     -- who leads has what was known
     refine pwS ?_
     conv => whnf
     refine zhd (fun k : Nat => k ≤ 7) (fun k => [(14, iv k)]) (fun _ => [(2, c.enc), (500, someV s (.ow 1000 0 (ms.map My.enc).length))]) (fun _ => [(1000, some (false, 16, ms.map My.enc)), (1001, some (false, 1, ts.map encI))]) [(1000, 1000), (1001, 1001)] (fun k => 7 - k) 0 (Nat.zero_le _) ?_ ?_
     ·conv => whnf
      exact wkD
     intro k hk
     have hk : k ≤ 7 := hk
     conv => whnf
     refine tSeq ?_
     conv => whnf
     (refine tSp (fun h => ?_) (fun h => ?_) <;> conv => whnf)
     ·have hk7 : k < 7 := by omega
      clear h
      have hsm := (hA.ply.rp k hk7).small (by omega)
      have hlasts := fun (h3 : (s.at k).role = 3) (q : Nat) (hq : q ≤ L.length) (hle : ∀ j t, j < q → ts[j]? = some t → t ≤ (s.at k).hard.term) => hA.lasts (by omega) hk7 h3 hq hle
      have hLm : (L.map Ent.enc).length = L.length := List.length_map ..
      have hTm : (ts.map encI).length = ts.length := List.length_map ..
      refine zmw ?_
      refine zja ?_
      refine tSeq ?_
      conv => whnf
      refine tCut (fun n : Nat => n ≤ L.length ∧ ∀ j t, j < n → ts[j]? = some t → t ≤ (s.at k).hard.term) (fun n => [(15, iv n)]) (fun _ => [(2, c.enc), (500, someV s (.ow 1000 0 (ms.map My.enc).length))]) (fun _ => [(1000, some (false, 16, ms.map My.enc)), (1001, some (false, 1, ts.map encI))]) ?_ ?_
      ·conv => whnf
       refine zhd (fun n : Nat => n ≤ L.length ∧ ∀ j t, j < n → ts[j]? = some t → t ≤ (s.at k).hard.term) (fun n => [(15, iv n)]) (fun _ => [(2, c.enc), (500, someV s (.ow 1000 0 (ms.map My.enc).length))]) (fun _ => [(1000, some (false, 16, ms.map My.enc)), (1001, some (false, 1, ts.map encI))]) [(1000, 1000), (1001, 1001)] (fun n => L.length - n) 0 ⟨Nat.zero_le _, fun j t h => absurd h (Nat.not_lt_zero j)⟩ ?_ ?_
       ·conv => whnf
        exact wkD
       rintro n ⟨hn, hle⟩
       have hn : n ≤ L.length := hn
       have hle : ∀ j t, j < n → ts[j]? = some t → t ≤ (s.at k).hard.term := hle
       conv => whnf
       refine tSeq ?_
       conv => whnf
       (refine tSp (fun h => ?_) (fun h => ?_) <;> conv => whnf)
       ·have hn3 : n < L.length := by rw [hLm] at h; omega
        clear h
        have hnt : n < ts.length := by omega
        have hrw : (ts.map encI)[0 + ((n : Nat) : Int).toNat]? = some (encI (ts[n]'hnt)) := by
         rw [Nat.zero_add, Int.toNat_natCast, List.getElem?_map, List.getElem?_eq_getElem hnt]; rfl
        have hnx : ts[n]'hnt ≤ (s.at k).hard.term → ∀ j t, j < n + 1 → ts[j]? = some t → t ≤ (s.at k).hard.term := fun h j t hj ht => by
         by_cases e : j = n
         ·subst e
          rw [List.getElem?_eq_getElem hnt] at ht
          rw [← Option.some.inj ht]; exact h
         ·exact hle j t (by omega) ht
        generalize ts[n]'hnt = t0 at *
        clear hA hsm hlasts
        refine ⟨⟨by omega, by show (n : Int) < ((ts.map encI).length : Int); omega⟩, ?_⟩
        conv => whnf
        refine ⟨_, hrw, ?_⟩
        conv => whnf
        refine ⟨⟨Int.natCast_nonneg _, Int.ofNat_lt.2 hk7⟩, ?_⟩
        conv => whnf
        refine at_term hk7 (by first | (show 0 + 0 + ((k : Nat) : Int).toNat * 40 + 1 = k * 40 + 1; omega) | (show 0 + 0 + ((k : Nat) : Int).toNat * 40 + 0 + 1 = k * 40 + 1; omega) | (show 0 + 0 + ((k : Nat) : Int).toNat * 40 + (0 + 1) = k * 40 + 1; omega)) ?_
        conv => whnf
        (refine tSp (fun h => ?_) (fun h => ?_) <;> conv => whnf)
        ·refine pwS ?_
         conv => whnf
         refine ⟨n + 1, [(1000, 1000), (1001, 1001)], ⟨⟨by omega, hnx (by omega)⟩, by omega⟩, ?_⟩
         conv => whnf
         exact wkD
        ·refine ⟨n, [(1000, 1000), (1001, 1001)], ⟨hn, hle⟩, ?_⟩
         conv => whnf
         exact wkD
       ·clear h
        refine ⟨n, [(1000, 1000), (1001, 1001)], ⟨hn, hle⟩, ?_⟩
        conv => whnf
        exact wkD
      rintro n ⟨hn, hle⟩
      have hn : n ≤ L.length := hn
      have hle : ∀ j t, j < n → ts[j]? = some t → t ≤ (s.at k).hard.term := hle
      conv => whnf
      refine pwS ?_
      conv => whnf
      have kl := c_Lasts (L.take n) (by rw [List.length_take]; omega) (s.at k) hsm
      have hpl : (s.at k).role = 3 → dec (zns (L.take n) (s.at k)) = true := fun h3 => zbm (hlasts h3 n hn hle)
      clear hA hsm hlasts hle
      refine ⟨⟨Int.natCast_nonneg _, Int.ofNat_lt.2 hk7⟩, ?_⟩
      conv => whnf
      refine at_role hk7 (by first | (show 0 + 0 + ((k : Nat) : Int).toNat * 40 + 12 = k * 40 + 12; omega) | (show 0 + 0 + ((k : Nat) : Int).toNat * 40 + 0 + 12 = k * 40 + 12; omega) | (show 0 + 0 + ((k : Nat) : Int).toNat * 40 + (0 + 12) = k * 40 + 12; omega)) ?_
      conv => whnf
      by_cases h3 : (s.at k).role = 3
      ·rw [hpl h3] at kl
       (first | refine tYes ?_ | refine tNo ?_)
       conv => whnf
       refine ⟨⟨by omega, by omega, by show (n : Int) ≤ ((L.map Ent.enc).length : Int); omega⟩, ?_⟩
       conv => whnf
       refine ⟨⟨Int.natCast_nonneg _, Int.ofNat_lt.2 hk7⟩, ?_⟩
       conv => whnf
       refine at_rft hk7 (by first | (show 0 + 0 + ((k : Nat) : Int).toNat * 40 = k * 40; omega)) ?_
       conv => whnf
       refine Exists.intro none ?_
       conv => whnf
       refine zaq kl (by rw [List.map_take]; rfl) ?_
       conv => whnf
       refine pwS ?_
       conv => whnf
       refine ⟨k + 1, [(1000, 1000), (1001, 1001)], ⟨by show k + 1 ≤ 7; omega, by show 7 - (k + 1) < 7 - k; omega⟩, ?_⟩
       conv => whnf
       exact wkD
      ·(first | refine tYes ?_ | refine tNo ?_)
       conv => whnf
       refine pwS ?_
       conv => whnf
       refine ⟨k + 1, [(1000, 1000), (1001, 1001)], ⟨by show k + 1 ≤ 7; omega, by show 7 - (k + 1) < 7 - k; omega⟩, ?_⟩
       conv => whnf
       exact wkD
     ·clear h
      refine pwS ?_
      conv => whnf
      refine ⟨(i + 1, s, ms, L, ts), [(1000, 1000), (1001, 1001)], ⟨⟨by show i + 1 ≤ l.length; omega, by show i + 1 ≤ 120; omega, hA⟩, by show l.length - (i + 1) < l.length - i; omega⟩, ?_⟩
      conv => whnf
      exact wkD
   ·clear h
    refine ⟨L, [], leave trivial, ?_⟩
    conv => whnf
    exact wkD
  ·clear h
   refine ⟨L, [], leave trivial, ?_⟩
   conv => whnf
   exact wkD
 rintro L ⟨hL, hst⟩
 have hL : L.length ≤ 401600 := hL
 have kcf := c_Confs L (by omega) c
 rw [hcf, hst] at kcf
 refine pwS ?_
 conv => whnf
 ((try (refine Exists.intro none ?_; conv => whnf)); (with_reducible refine zaa (kcf) ?_); conv => whnf)
 ((try (refine Exists.intro none ?_; conv => whnf)); (with_reducible refine zaa (zuk) ?_); conv => whnf)
 exact zab rfl rfl
theorem told_AuditHolds (qs : List PV) (h : zlx Tryz.prog [23, 24] qs) : Ctr Tryz.prog 6 qs (bv true) [] := by
 obtain ⟨p1, qs, rfl, h1, h⟩ := zj8 h
 obtain ⟨p2, qs, rfl, h2, h⟩ := zj8 h
 obtain rfl := zsf h
 obtain ⟨c, rfl, _⟩ := zzj h1
 obtain ⟨l, rfl, hl, _⟩ := zzl h2
 exact zny c l hl
end Go.Proofs
