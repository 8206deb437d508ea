import Derived.Test.YtbhfokahocgndabGreatC1
import Derived.Test.YtbhfokahocgndabGreatU5
import Derived.Test.YtbhfokahocgndabGreatR3
import Derived.Test.YtbhfokahocgndabGreatI1
import Derived.Test.YtbhfokahocgndabGreatH8
/- Plain law: an act of a play keeps its replicas right. -/
set_option linter.unusedSimpArgs false
set_option linter.unusedVariables false
namespace Go.Proofs
open Go.Pv
set_option maxRecDepth 100000
theorem zfz {r : Rft} (h : zeq r = 0) : r.role = 3 := by
 unfold zeq at h
 split at h
 ·assumption
 ·exact absurd h (by decide)
theorem cz_zero : (decide ((cz : Conf) = cz)) = true := by decide
theorem add_rp {n : Nat} {i : Int} {r : Rft} (h : Rp n i r) (hn : n ≤ 199) {x : Ent} (hx : zcy x = true) (ht : x.term = r.hard.term) (h1 : 1 ≤ r.hard.term) : Rp (n + 1) i (addR r x) :=
 ⟨add_right h.rgt (by have := h.log; omega) hx ht h1, h.id, h.led, by show (r.hard.log ++ [x]).length ≤ _; rw [List.length_append]; have := h.log; show r.hard.log.length + 1 ≤ _; omega, by have := h.base; show r.hard.base ≤ _; omega, h.snap⟩
theorem nxt_fit {f : Nat → Bool} {v : Int} {a : Arr} {g : Int} (h : ∀ i, i < 7 → 0 ≤ a.at i ∧ a.at i ≤ g) (hv : 0 ≤ v ∧ v ≤ g) : ∀ k, ∀ i, i < 7 → 0 ≤ (nxt f v a k).at i ∧ (nxt f v a k).at i ≤ g
 | 0 => h
 | k + 1 => by
  unfold nxt
  split
  ·exact zi0 (nxt_fit h hv k) hv
  ·exact nxt_fit h hv k
theorem Rp.last0 {n : Nat} {i : Int} {r : Rft} (h : Rp n i r) (hn : n ≤ 200) : 0 ≤ lastI r.hard := by
 rw [h.last hn]
 have := (za8 h.rgt.hard).1.b
 omega
theorem nx_rp {n : Nat} {i : Int} {r : Rft} (h : Rp n i r) (hn : n ≤ 199) (c : Conf) (k : Nat) : Rp n i (nxR r c k) := by
 have h0 := h.last0 (by omega)
 have h1 := h.lastB (by omega)
 exact ⟨⟨h.rgt.hard, h.rgt.id, h.rgt.com, h.rgt.role, h.rgt.lead, h.rgt.wait, h.rgt.quiet, h.rgt.round, h.rgt.votes, nxt_fit h.rgt.next (by omega) k, h.rgt.mtch, h.rgt.silent, h.rgt.reads, h.rgt.own⟩, h.id, h.led, h.log, h.base, h.snap⟩
theorem prop_rp {n : Nat} {i : Int} {r : Rft} (h : Rp n i r) (hn : n ≤ 199) {c : VCall} (he : propE r c = 0) : Rp (n + 1) i (addR r (ec r c)) := by
 unfold propE at he
 split at he
 ·rename_i hl
  split at he
  ·rename_i hc
   refine add_rp h hn ?_ rfl (h.led (by have := zfz hl; omega))
   unfold zcy
   rw [if_neg (show ¬ (1 : Int) = 0 by decide), if_pos rfl]
   rw [show (ec r c).call = c from rfl, decide_eq_true hc]
   exact cz_zero
  ·rename_i hc; exact absurd he hc
 ·exact absurd he (by decide)
theorem chg_rp {n : Nat} {i : Int} {r : Rft} (h : Rp n i r) (hn : n ≤ 199) {c : Conf} (he : chgE r c = 0) : Rp (n + 1) i (addR (nxR r c 7) (ecf r c)) := by
 unfold chgE at he
 split at he
 ·rename_i hl
  split at he
  ·split at he
   ·rename_i hnr
    have hc : confB c = true := by
     have := hnr.1
     unfold nearR at this
     rw [Bool.and_eq_true, Bool.and_eq_true] at this
     exact this.2.1
    refine add_rp (nx_rp h hn c 7) hn ?_ rfl (h.led (by have := zfz hl; omega))
    unfold zcy
    rw [if_neg (show ¬ (2 : Int) = 0 by decide), if_neg (show ¬ (2 : Int) = 1 by decide), if_pos rfl]
    rw [show (ecf r c).conf = c from rfl, hc]
    rfl
   ·exact absurd he (by decide)
  ·exact absurd he (by decide)
 ·exact absurd he (by decide)
theorem ask_rp {n : Nat} {i : Int} {r : Rft} (h : Rp n i r) {c : VCall} (he : askE r c = 0) : Rp (n + 1) i (askR r c) := by
 have hR := h.rgt.round
 have hc := h.rgt.com
 have hb := (za8 h.rgt.hard).1.b
 obtain ⟨q1, q2, q3⟩ := rds_of h.rgt.reads
 unfold askE at he
 split at he
 ·rename_i hl
  have hro := zfz hl
  split at he
  ·split at he
   ·rename_i hcr
    split at he
    ·rename_i h4
     refine Rp.mono (n := n) ⟨⟨h.rgt.hard, h.rgt.id, h.rgt.com, h.rgt.role, h.rgt.lead, h.rgt.wait, h.rgt.quiet, h.rgt.round, h.rgt.votes, h.rgt.next, h.rgt.mtch, h.rgt.silent, zly ?_ (fun _ => hro) fun y hy => ?_, h.rgt.own⟩, h.id, h.led, h.log, h.base, h.snap⟩ (Nat.le_succ n)
     ·show (r.reads ++ [qR r c]).length ≤ 4
      rw [List.length_append]
      show r.reads.length + 1 ≤ 4
      omega
     ·rcases List.mem_append.1 hy with hy | hy
      ·exact q3 y hy
      ·rw [List.mem_singleton.1 hy]
       unfold rdB
       rw [show (qR r c).call = c from rfl, decide_eq_true hcr]
       simp only [Bool.true_and, Bool.and_eq_true]
       exact ⟨zad (by show 0 ≤ r.commit ∧ r.commit ≤ r.commit; omega), zad (zhr (by omega)), zad (zgv h.rgt.id)⟩
    ·exact absurd he (by decide)
   ·rename_i hcr; exact absurd he hcr
  ·exact absurd he (by decide)
 ·exact absurd he (by decide)
theorem ready_rp {n : Nat} {i : Int} {r : Rft} (h : Rp n i r) : Rp (n + 1) i (readyR r) := by
 obtain ⟨q1, q2, q3⟩ := rds_of h.rgt.reads
 have hfl : (r.reads.filter fun x => !rdy (zac r) r.commit x).length ≤ r.reads.length := List.length_filter_le ..
 exact Rp.mono (n := n) ⟨⟨h.rgt.hard, h.rgt.id, h.rgt.com, h.rgt.role, h.rgt.lead, h.rgt.wait, h.rgt.quiet, h.rgt.round, h.rgt.votes, h.rgt.next, h.rgt.mtch, h.rgt.silent, zly (by show (r.reads.filter _).length ≤ 4; omega) (fun e => q2 (by have e : 0 < (r.reads.filter fun x => !rdy (zac r) r.commit x).length := e; omega)) fun y hy => q3 y (List.mem_filter.1 hy).1, h.rgt.own⟩, h.id, h.led, h.log, h.base, h.snap⟩ (Nat.le_succ n)
theorem comp_cut {h : Hrd} {i : Int} {s : List Int} (hl : h.log.length ≤ 4294967) (e : compE h i s = 0) : ∃ q : Nat, 1 ≤ q ∧ q ≤ h.log.length ∧ i = h.base + q ∧ compH h i s = cutH h q (fwd h (lastI h) q).1 s := by
 obtain ⟨hB, h1, h2⟩ := compE_inv e
 have hla := zdt hB (by omega)
 obtain ⟨q, hq⟩ : ∃ q : Nat, i = h.base + q := ⟨(i - h.base).toNat, by omega⟩
 refine ⟨q, by omega, by omega, hq, ?_⟩
 have hA := za8 hB
 have hb := hA.1.b
 have hf : force h i = fwd h (lastI h) q := by rw [hq]; exact force_at ⟨hb.1, by omega⟩ (by omega) (by omega) (by omega)
 unfold compH cutH
 rw [hf, zdq hq (by omega), show (i - h.base).toNat = q by omega, hq]
theorem comp_rp {n : Nat} {i : Int} {r : Rft} (h : Rp n i r) (hn : n ≤ 199) {k : Int} (he : compE r.hard r.commit (byteL k) = 0) : Rp (n + 1) i (compR r k) := by
 have hlg := h.log
 obtain ⟨q, h1, hq, hi, e⟩ := comp_cut (by omega) he
 obtain ⟨hB, hc, hs⟩ := compE_inv he
 obtain ⟨hA, hC, _, hR⟩ := za8 hB
 have hb := hA.b
 have hla := h.last (by omega)
 have hbn := h.base
 have hg := h.rgt
 have hh : hardB (compH r.hard r.commit (byteL k)) = true := by
  rw [e]
  exact cut_hard hB h1 hq (by omega) (fwd_conf hC hR _ _ hq) (by show 1 ≤ 16384; decide)
 have hlast : lastI (compH r.hard r.commit (byteL k)) = lastI r.hard := by
  rw [e]; exact cut_lastI hb.1 (by omega) hq _ _
 have hbase : (compH r.hard r.commit (byteL k)).base = r.commit := rfl
 have hlen : (compH r.hard r.commit (byteL k)).log.length ≤ r.hard.log.length := by
  show (r.hard.log.drop _).length ≤ _
  rw [List.length_drop]; omega
 exact ⟨⟨hh, hg.id, ⟨Int.le_refl _, by show r.commit ≤ lastI (compH r.hard r.commit (byteL k)); rw [hlast]; exact hg.com.2⟩, hg.role, hg.lead, hg.wait, hg.quiet, hg.round, hg.votes, hg.next, fun j hj => by
  have := hg.mtch j hj
  show 0 ≤ r.mtch.at j ∧ r.mtch.at j ≤ lastI (compH r.hard r.commit (byteL k))
  rw [hlast]; exact this, hg.silent, hg.reads, hg.own⟩, h.id, h.led, by show (compH r.hard r.commit (byteL k)).log.length ≤ _; omega, by show r.commit ≤ _; omega, by show 1 ≤ 1; decide⟩
theorem act_rp {n : Nat} {i : Int} {r : Rft} (h : Rp n i r) (hn : n ≤ 199) {a : Act} {c : Conf} {kd : Int} {R : Rft} (hE : ActE r a c kd R) : Rp (n + 1) i R := by
 rcases hE with hE | ⟨_, rfl⟩
 ·cases hE with
  | prop he => exact prop_rp h hn he
  | chg he => exact chg_rp h hn he
  | ask he => exact ask_rp h he
  | ready => exact ready_rp h
  | comp he => exact comp_rp h hn he
 ·exact h.mono (Nat.le_succ n)
theorem new_rp {n : Nat} {i : Int} {h : Hrd} (hh : hardB h = true) (hi : 0 ≤ i ∧ i < 7) (hl : h.log.length ≤ 8 * n) (hn : n ≤ 199) (hb : h.base ≤ 2000 * (n : Int)) (hs : h.snap.length ≤ 1) : Rp n i (newR i h) := by
 have hA := (za8 hh).1
 have hB := hA.b
 have hla := zdt hh (by omega)
 have hd := zdi (zac (rNew0 i h)) hi
 have hz : ∀ j, j < 7 → 0 ≤ zA.at j ∧ zA.at j ≤ 1099511627776 := zhb (by decide)
 exact ⟨⟨hh, hi, ⟨Int.le_refl _, by show h.base ≤ lastI h; omega⟩, by show (0 : Int) ≤ 0 ∧ (0 : Int) ≤ 3; decide, by show (-1 : Int) ≤ -1 ∧ (-1 : Int) < 7; decide, ⟨hd.1, Int.le_trans hd.2 (by decide)⟩, by show (0 : Int) ≤ 0 ∧ (0 : Int) ≤ 1099511627776; decide, by show (0 : Int) ≤ 0 ∧ (0 : Int) ≤ 1099511627776; decide, by show (0 : Int) ≤ 0 ∧ (0 : Int) ≤ 127; decide, hz, zhb (by show 0 ≤ lastI h; omega), hz, zg6 rfl, fun e => absurd e (by show ¬ (0 : Int) = 3; decide)⟩, rfl, fun e => absurd e (by show ¬ (2 : Int) ≤ 0; decide), hl, hb, hs⟩
structure Ply (n : Nat) (s : Svn) (ms : List My) : Prop where
 rp : ∀ k : Nat, k < 7 → Rp n k (s.at k)
 my : ∀ y ∈ ms, MyOk n y
 len : ms.length ≤ 100
theorem Ply.mono {n k : Nat} {s : Svn} {ms : List My} (h : Ply n s ms) (hk : n ≤ k) : Ply k s ms := ⟨fun i hi => (h.rp i hi).mono hk, fun y hy => (h.my y hy).mono hk, h.len⟩
theorem Ply.put {n : Nat} {s : Svn} {ms : List My} (h : Ply n s ms) {k : Nat} (hk : k < 7) {R : Rft} (hR : Rp n k R) : Ply n (s.put k R) ms := by
 refine ⟨fun i hi => ?_, h.my, h.len⟩
 rw [Svn.put_at s R hk hi]
 split
 ·rename_i e; rw [e]; exact hR
 ·exact h.rp i hi
def capY (ms ys : List My) : List My := ms ++ ys.take (100 - ms.length)
theorem capY_map (ms ys : List My) : capM (ms.map My.enc) (ys.map My.enc) = (capY ms ys).map My.enc := by
 unfold capM capY
 rw [List.map_append, List.map_take, List.length_map]
theorem Ply.cap {n : Nat} {s : Svn} {ms ys : List My} (h : Ply n s ms) (hy : ∀ y ∈ ys, MyOk n y) : Ply n s (capY ms ys) := by
 refine ⟨h.rp, fun y hm => ?_, ?_⟩
 ·rcases List.mem_append.1 hm with hm | hm
  ·exact h.my y hm
  ·exact hy y (List.mem_of_mem_take hm)
 ·have := h.len
  unfold capY
  rw [List.length_append, List.length_take]; omega
theorem Ply.drop {n : Nat} {s : Svn} {ms : List My} (h : Ply n s ms) (j : Nat) : Ply n s (ms.eraseIdx j) := by
 refine ⟨h.rp, fun y hm => h.my y (List.mem_of_mem_eraseIdx hm), ?_⟩
 have := h.len
 rw [List.length_eraseIdx]
 split <;> omega
theorem Rp.small {n : Nat} {i : Int} {r : Rft} (h : Rp n i r) (hn : n ≤ 200) : r.small :=
 (h.rgt.fit (by have := h.log; omega)).small
inductive DoC (s : Svn) (ms : List My) (a : Act) (s' : Svn) (ms' : List My) : Prop where
 | same (e : ms' = ms) (h : CtrE Tryz.prog 11 [.pt 1000000 0, .ag a.enc, bv true] [(1000000, someI s (ms.map My.enc))] (someO (ms.map My.enc)) (bv true) [(1000000, someI s' (ms'.map My.enc))] (someO (ms'.map My.enc)))
 | lost (h : CtrE Tryz.prog 11 [.pt 1000000 0, .ag a.enc, bv true] [(1000000, someI s (ms.map My.enc))] (someO (ms.map My.enc)) (bv true) [(1000000, someV s' (.ow 1 0 (ms'.map My.enc).length))] [(1000000, none), (1, some (false, 16, ms'.map My.enc))])
 | kept (h : CtrE Tryz.prog 11 [.pt 1000000 0, .ag a.enc, bv true] [(1000000, someI s (ms.map My.enc))] (someO (ms.map My.enc)) (bv true) [(1000000, someV s' (.ow 1 0 (ms'.map My.enc).length))] [(1000000, some (false, 16, ms.map My.enc)), (1, some (false, 16, ms'.map My.enc))])
inductive Step (n : Nat) (s : Svn) (ms : List My) (a : Act) : Svn → List My → Prop where
 | none : Step n s ms a s ms
 | tick (k : Nat) (hk : k < 7) (ys : List My) (e : tkO (s.at k) = ys.map My.enc) : Step n s ms a (s.put k (tkR (s.at k))) (capY ms ys)
 | take (j : Nat) (hj : j < ms.length) (t : Nat) (ht : t < 7) (hto : (ms[j]'hj).to = (t : Int)) (hM : RightM (s.at t) (ms[j]'hj).mg) (R : Rft) (ys : List My) (hk : TK (s.at t) (ms[j]'hj).mg R (ys.map My.enc) 0) : Step n s ms a (s.put t R) (capY (ms.eraseIdx j) ys)
 | lose (j : Nat) : Step n s ms a s (ms.eraseIdx j)
 | double (j : Nat) (hj : j < ms.length) : Step n s ms a s (capY ms [ms[j]'hj])
 | act (k : Nat) (hk : k < 7) (c : Conf) (kd : Int) (R : Rft) (h : ActE (s.at k) a c kd R) (hd : (IntKind.u64.wrap a.doo).tmod 18 = kd) : Step n s ms a (s.put k R) ms
 | crash (k : Nat) (hk : k < 7) : Step n s ms a (s.put k (newR k (s.at k).hard)) ms
theorem Rp.id' {n : Nat} {i : Int} {r : Rft} (h : Rp n i r) : Rp n r.id r := by rw [h.id]; exact h
theorem stp_of {n : Nat} {i : Int} {r R : Rft} {O : List (List PV)} (h : Rp n i r) (g : Stp n r R O) : Rp (n + 1) i R := by have := g.rp; rwa [h.id] at this
def evl : PV → Nat
 | .sl _ rows => rows.length
 | _ => 0
theorem my_ok_enc {n : Nat} {z y : My} (e : z.enc = y.enc) (h : MyOk n z) : MyOk n y := by
 have e0 : some (iv z.kind) = some (iv y.kind) := congrArg (fun l => l[0]?) e
 have e2 : some (iv z.to) = some (iv y.to) := congrArg (fun l => l[2]?) e
 have e4 : some (iv z.index) = some (iv y.index) := congrArg (fun l => l[4]?) e
 have e9 : some z.bd.ev = some y.bd.ev := congrArg (fun l => l[9]?) e
 have e14 : some z.bd.sv = some y.bd.sv := congrArg (fun l => l[14]?) e
 have kk : z.kind = y.kind := by injection e0 with e0; injection e0 with e0; injection e0
 have kt : z.to = y.to := by injection e2 with e0; injection e0 with e0; injection e0
 have ki : z.index = y.index := by injection e4 with e0; injection e0 with e0; injection e0
 have he : ∀ b : Bd, evl b.ev = b.ents.length := fun b => by cases b <;> first | rfl | exact List.length_map ..
 have hs : ∀ b : Bd, evl b.sv = b.snp.length := fun b => by cases b <;> first | rfl | exact List.length_map ..
 have le : z.bd.ents.length = y.bd.ents.length := by rw [← he, ← he, Option.some.inj e9]
 have ls : z.bd.snp.length = y.bd.snp.length := by rw [← hs, ← hs, Option.some.inj e14]
 exact ⟨by rw [← le]; exact h.es, by rw [← ls]; exact h.sn, by rw [← kk, ← ki]; exact h.ix, by rw [← kt]; exact h.tor⟩
theorem step_ply {n : Nat} {s : Svn} {ms : List My} {a : Act} {s' : Svn} {ms' : List My} (h : Ply n s ms) (hn : n ≤ 199) (st : Step n s ms a s' ms') : Ply (n + 1) s' ms' := by
 cases st with
 | none => exact h.mono (Nat.le_succ n)
 | tick k hk ys e =>
  have g := tk_stp (h.rp k hk).id' hn
  obtain ⟨L, e2, hL, _⟩ := g.rows
  refine ((h.mono (Nat.le_succ n)).put hk (stp_of (h.rp k hk) g)).cap fun y hy => ?_
  have : y.enc ∈ L.map My.enc := by rw [← e2, e]; exact List.mem_map.2 ⟨y, hy, rfl⟩
  obtain ⟨z, hz, hze⟩ := List.mem_map.1 this
  exact my_ok_enc hze (hL z hz).ok
 | take j hj t ht hto hM R ys hk =>
  have hy := h.my _ (List.getElem_mem hj)
  have g := take_stp (h.rp t ht).id' hn hM hy.sn hy.ix hk rfl
  obtain ⟨L, e2, hL, _⟩ := g.rows
  refine (((h.mono (Nat.le_succ n)).drop j).put ht (stp_of (h.rp t ht) g)).cap fun y hy => ?_
  have : y.enc ∈ L.map My.enc := by rw [← e2]; exact List.mem_map.2 ⟨y, hy, rfl⟩
  obtain ⟨z, hz, hze⟩ := List.mem_map.1 this
  exact my_ok_enc hze (hL z hz).ok
 | lose j => exact (h.mono (Nat.le_succ n)).drop j
 | double j hj =>
  refine (h.mono (Nat.le_succ n)).cap fun y hy => ?_
  rw [List.mem_singleton.1 hy]
  exact (h.my _ (List.getElem_mem hj)).mono (Nat.le_succ n)
 | act k hk c kd R hE _ => exact (h.mono (Nat.le_succ n)).put hk (act_rp (h.rp k hk) hn hE)
 | crash k hk =>
  have hr := h.rp k hk
  exact (h.mono (Nat.le_succ n)).put hk ((new_rp hr.rgt.hard (by omega) hr.log hn hr.base hr.snap).mono (Nat.le_succ n))
theorem zfm {c : Conf} (h : Cok c) {b : Int} (hb : ∀ i, i < 7 → tb (zbb c) i = true → tb b i = true) : zas c b = true := by
 have e : count (band (zbb c) b) = count (zbb c) := count_ext fun i hi => by
  rw [zc6]
  cases hv : tb (zbb c) i with
  | false => rfl
  | true => rw [hb i hi hv]; rfl
 have := h.pos
 rw [zjx, e]
 omega
theorem zjw {c : Conf} (h2 : 2 ≤ count (zbb c)) {b : Int} {k : Nat} (hk : k < 7) (hb : ∀ i, i < 7 → tb (zbb c) i = true → tb b i = true → i = k) : zas c b = false := by
 cases h : zas c b with
 | false => rfl
 | true =>
  have := zh6 (b := shl 1 k) (fun i hi hv ht => by rw [zdu k i (by omega), decide_eq_true_eq]; exact (hb i hi hv ht).symm) h
  rw [zdh hk h2] at this
  cases this
theorem zh9 {d : Nat} (s : Arr) {i : Nat} : ∀ k : Nat, k ≤ 7 → d < 7 → (tb (za2 d s k) i = true ↔ i = d ∨ (i < k ∧ s.at i < 12))
 | 0, _, hd => by
  rw [show za2 d s 0 = shl 1 d from rfl, zdu d i (by omega), decide_eq_true_eq]
  constructor
  ·intro h; exact .inl h.symm
  ·rintro (h | ⟨h, _⟩)
   ·exact h.symm
   ·omega
 | k + 1, hk, hd => by
  have ih := zh9 (d := d) s (i := i) k (by omega) hd
  by_cases hc : ¬ (k : Int) = d ∧ s.at k < 12
  ·rw [show za2 d s (k + 1) = bor (za2 d s k) (shl 1 k) from if_pos hc, tb_or, Bool.or_eq_true, ih, zdu k i (by omega), decide_eq_true_eq]
   constructor
   ·rintro ((h | ⟨h, h'⟩) | h)
    ·exact .inl h
    ·exact .inr ⟨by omega, h'⟩
    ·subst h; exact .inr ⟨by omega, hc.2⟩
   ·rintro (h | ⟨h, h'⟩)
    ·exact .inl (.inl h)
    ·by_cases e : k = i
     ·exact .inr e
     ·exact .inl (.inr ⟨by omega, h'⟩)
  ·rw [show za2 d s (k + 1) = za2 d s k from if_neg hc, ih]
   constructor
   ·rintro (h | ⟨h, h'⟩)
    ·exact .inl h
    ·exact .inr ⟨by omega, h'⟩
   ·rintro (h | ⟨h, h'⟩)
    ·exact .inl h
    ·by_cases e : i = k
     ·subst e
      refine .inl ?_
      apply Classical.byContradiction
      intro hne
      exact hc ⟨by omega, h'⟩
     ·exact .inr ⟨by omega, h'⟩
theorem sil_at {v : Nat} (hv : v < 7) : ∀ (l : List Int) (a : Arr), (∀ x ∈ l, 0 ≤ x ∧ x < 7) → l.Nodup → (silL a l).at v = if (v : Int) ∈ l then farM (a.at v + 1) else a.at v
 | [], a, _, _ => by rw [if_neg List.not_mem_nil]; rfl
 | x :: l, a, hl, hd => by
  obtain ⟨h1, h2⟩ := List.nodup_cons.1 hd
  have hx := hl x (List.mem_cons_self ..)
  have ih := sil_at hv l (sil1 a x) (fun y hy => hl y (List.mem_cons_of_mem _ hy)) h2
  show (silL (sil1 a x) l).at v = _
  rw [ih]
  have ep : (sil1 a x).at v = if v = x.toNat then farM (a.at x.toNat + 1) else a.at v := zk8 a _ (by omega) hv
  by_cases e : (v : Int) = x
  ·rw [if_neg (by rw [e]; exact h1), if_pos (by rw [e]; exact List.mem_cons_self ..), ep, if_pos (by omega), show x.toNat = v by omega]
  ·rw [ep, if_neg (by omega : ¬ v = x.toNat)]
   by_cases hm : (v : Int) ∈ l
   ·rw [if_pos hm, if_pos (List.mem_cons_of_mem _ hm)]
   ·rw [if_neg hm, if_neg (by intro h; rcases List.mem_cons.1 h with h | h; exact e h; exact hm h)]
theorem othN_nodup (id bits : Int) (n : Nat) : (othN id bits n).Nodup := by
 unfold othN
 refine List.Pairwise.map _ (fun a b h => ?_) ((List.nodup_range (n := n)).filter _)
 intro e
 exact h (by omega)
theorem zhn {id bits : Int} {v : Nat} (hv : v < 7) (hne : (v : Int) ≠ id) (ht : tb bits v = true) : (v : Int) ∈ othN id bits 7 := by
 unfold othN
 refine List.mem_map.2 ⟨v, List.mem_filter.2 ⟨List.mem_range.2 hv, ?_⟩, rfl⟩
 rw [Bool.and_eq_true, decide_eq_true_eq]
 exact ⟨hne, ht⟩
structure NoC (c : Conf) (h : Hrd) : Prop where
 bc : h.baseConf = c
 no : ∀ x ∈ h.log, ¬ x.kind = 2
theorem fwd_no {h : Hrd} (hn : ∀ x ∈ h.log, ¬ x.kind = 2) (u : Int) : ∀ i, (fwd h u i).1 = h.baseConf ∧ (fwd h u i).2 = h.base
 | 0 => ⟨rfl, rfl⟩
 | i + 1 => by
  have ih := fwd_no hn u i
  by_cases hi : i < h.log.length
  ·rw [zf6 hi (fun a => hn _ (List.getElem_mem hi) a.2)]
   exact ih
  ·have e : fwd h u (i + 1) = fwd h u i := by
     conv => lhs; unfold fwd
     rw [List.getElem?_eq_none (by omega)]
   rw [e]; exact ih
theorem NoC.force {c : Conf} {r : Rft} (h : NoC c r.hard) : zac r = c := ((fwd_no h.no _ _).1).trans h.bc
structure Prp (c : Conf) (k n : Nat) (r : Rft) : Prop where
 rp : Rp n k r
 role : r.role = 3
 nc : NoC c r.hard
 sil : ∀ v, v < 7 → r.silent.at v = 0
theorem Prp.prop {c : Conf} {k n : Nat} {r : Rft} (h : Prp c k n r) (hn : n ≤ 199) {a : VCall} (he : propE r a = 0) : Prp c k (n + 1) (addR r (ec r a)) :=
 ⟨prop_rp h.rp hn he, h.role, ⟨h.nc.bc, fun x hx => by
  rcases List.mem_append.1 hx with hx | hx
  ·exact h.nc.no x hx
  ·rw [List.mem_singleton.1 hx]; show ¬ (1 : Int) = 2; decide⟩, h.sil⟩
structure Apt (c : Conf) (k : Nat) (r0 r : Rft) (j : Nat) : Prop where
 rgt : Rgt r
 role : r.role = 3
 id : r.id = k
 hard : r.hard = r0.hard
 com : r.commit = r0.commit
 force : zac r = c
 sil : ∀ v, v < 7 → r.silent.at v ≤ j
 mem : ∀ v, v < 7 → tb (zbb c) v = true → v ≠ k → r.silent.at v = j
theorem Prp.apt {c : Conf} {k n : Nat} {r : Rft} (h : Prp c k n r) : Apt c k r r 0 :=
 ⟨h.rp.rgt, h.role, h.rp.id, rfl, rfl, h.nc.force, fun v hv => by rw [h.sil v hv]; exact Int.le_refl _, fun v hv _ _ => h.sil v hv⟩
theorem farM_le {n : Int} (h : n ≤ 1099511627776) : farM n = n := if_neg (by omega)
theorem apt_sil {c : Conf} {k : Nat} (hk : k < 7) {r0 r : Rft} {j : Nat} (h : Apt c k r0 r j) (hj : j ≤ 11) : (∀ v, v < 7 → (beatR r).silent.at v ≤ ((j + 1 : Nat) : Int)) ∧ ∀ v, v < 7 → tb (zbb c) v = true → v ≠ k → (beatR r).silent.at v = ((j + 1 : Nat) : Int) := by
 have key : ∀ v, v < 7 → (beatR r).silent.at v = if (v : Int) ∈ allL r then r.silent.at v + 1 else r.silent.at v := fun v hv => by
  show (silL r.silent (allL r)).at v = _
  rw [sil_at hv (allL r) r.silent (fun x hx => zc5 hx) (othN_nodup _ _ _)]
  have := h.sil v hv
  split
  ·exact farM_le (by omega)
  ·rfl
 refine ⟨fun v hv => ?_, fun v hv ht hne => ?_⟩
 ·rw [key v hv]
  have := h.sil v hv
  split <;> omega
 ·rw [key v hv, if_pos ?_, h.mem v hv ht hne]
  ·omega
  ·refine zhn hv (by rw [h.id]; omega) ?_
   have ht2 : tb (bor (zac r).full (zac r).wit) v = true := by rw [h.force]; exact ht
   rw [tb_or, tb_or, ht2]
   rfl
theorem apt_next {c : Conf} (hc : Cok c) {k : Nat} (hk : k < 7) (hv : tb (zbb c) k = true) {r0 r : Rft} {j : Nat} (h : Apt c k r0 r j) (hj : j < 11) : tkR r = beatR r ∧ Apt c k r0 (beatR r) (j + 1) := by
 obtain ⟨a1, a2⟩ := apt_sil hk h (by omega)
 have hg : goB r = true := by
  unfold goB
  rw [Bool.and_eq_true, h.force, h.id]
  refine ⟨zfm hc fun i hi _ => ?_, ?_⟩
  ·rw [zh9 _ _ (Nat.le_refl _) hk]
   refine .inr ⟨hi, ?_⟩
   have := a1 i hi
   omega
  ·have e : zb1 (beatR r) = true := by
     show bitB (bor (zac r).full (zac r).wit) r.id = true
     rw [h.force, h.id, zbs hk]; exact hv
   rw [e]; rfl
 refine ⟨?_, ⟨zj0 h.rgt, h.role, h.id, h.hard, h.com, h.force, a1, a2⟩⟩
 unfold tkR beatF
 rw [if_pos h.role, if_pos hg]
theorem apt_last {c : Conf} (h2 : 2 ≤ count (zbb c)) {k : Nat} (hk : k < 7) {r0 r : Rft} (h : Apt c k r0 r 11) : tkR r = fallR (beatR r) r.hard.term (-1) ∧ tkO r = [] := by
 obtain ⟨a1, a2⟩ := apt_sil hk h (Nat.le_refl _)
 have hg : ¬ goB r = true := by
  unfold goB
  rw [Bool.and_eq_true, h.force, h.id]
  rintro ⟨hq, _⟩
  rw [zjw h2 hk fun i hi hv ht => ?_] at hq
  ·cases hq
  ·rw [zh9 _ _ (Nat.le_refl _) hk] at ht
   rcases ht with e | ⟨_, e⟩
   ·exact e
   ·apply Classical.byContradiction
    intro hne
    have := a2 i hi hv hne
    omega
 unfold tkR tkO beatF beatO
 rw [if_pos h.role, if_pos h.role, if_neg hg, if_neg hg]
 exact ⟨rfl, rfl⟩
abbrev hdC (c : Conf) (t vo : Int) (L : List Ent) : Hrd := ⟨t, vo, 0, 0, c, [], L⟩
structure Oth (c : Conf) (k0 ph : Nat) (r : Rft) : Prop where
 role : r.role = 0
 com : r.commit = 0
 hd : ∃ t vo L, r.hard = hdC c t vo L ∧ ((t = 0 ∧ vo = -1 ∧ L = []) ∨ (t = 1 ∧ (vo = -1 ∨ vo = k0) ∧ (L = [] ∨ L = [et 1])))
 p1 : ph = 1 → r.hard.term = 0 ∧ 6 ≤ r.quiet
 p2 : ph = 2 → r.hard.log = [] ∧ (r.hard.term = 0 ∨ r.hard.vote = k0)
structure Lk (c : Conf) (k0 ph : Nat) (r : Rft) : Prop where
 k1 : ph = 1 → r.role = 1 ∧ r.hard = hdC c 0 (-1) [] ∧ r.commit = 0 ∧ tb r.votes k0 = true ∧ zas c r.votes = false
 k2 : ph = 2 → r.role = 2 ∧ r.hard = hdC c 1 k0 [] ∧ r.commit = 0 ∧ tb r.votes k0 = true ∧ zas c r.votes = false
 k3 : ph = 3 → r.role = 3 ∧ r.hard = hdC c 1 k0 [et 1] ∧ (∀ v, v < 7 → r.silent.at v = 0) ∧ r.mtch.at k0 = 1 ∧ (∀ v, v < 7 → r.mtch.at v = 0 ∨ r.mtch.at v = 1) ∧ r.commit = (if zas c (haveB r.mtch 1 7) = true then 1 else 0)
structure Mc (k0 ph : Nat) (y : My) : Prop where
 frm : 0 ≤ y.frm ∧ y.frm < 7
 to : 0 ≤ y.to ∧ y.to < 7
 ne : y.frm ≠ y.to
 rnd : 0 ≤ y.round ∧ y.round ≤ 1099511627776
 ix : 0 ≤ y.index ∧ y.index ≤ 1
 lt : y.logT = 0
 kd : 1 ≤ y.kind ∧ y.kind ≤ 6
 dn : y.kind = 1 ∨ y.kind = 3 ∨ y.kind = 5 → y.frm = k0
 up : y.kind = 2 ∨ y.kind = 4 ∨ y.kind = 6 → y.to = k0
 m1 : y.kind = 1 ∨ y.kind = 3 → y.term = 1 ∧ y.index = 0
 m2 : y.kind = 2 → 0 ≤ y.term ∧ y.term ≤ 1 ∧ (y.yes = true → y.term = 1) ∧ (ph = 1 → y.yes = true)
 m3 : y.kind = 3 → 2 ≤ ph
 m4 : y.kind = 4 → 2 ≤ ph ∧ y.term = 1 ∧ (ph = 2 → y.yes = true)
 m5 : y.kind = 5 → ph = 3 ∧ y.term = 1 ∧ y.index = 0 ∧ y.bd = .es [et 1] ∧ y.commit = 0
 m6 : y.kind = 6 → ph = 3 ∧ y.term = 1 ∧ y.index = 1 ∧ y.yes = true
def Pg (c : Conf) (k0 ph : Nat) (r : Rft) (ms : List My) : Prop := ∀ v : Nat, v < 7 → v ≠ k0 → tb (zbb c) v = true →
 (ph = 1 → tb r.votes v = true ∨ ∃ y ∈ ms, (y.kind = 1 ∧ y.to = v) ∨ (y.kind = 2 ∧ y.frm = v)) ∧
 (ph = 2 → tb r.votes v = true ∨ ∃ y ∈ ms, (y.kind = 3 ∧ y.to = v) ∨ (y.kind = 4 ∧ y.frm = v)) ∧
 (ph = 3 → r.mtch.at v = 1 ∨ ∃ y ∈ ms, (y.kind = 5 ∧ y.to = v) ∨ (y.kind = 6 ∧ y.frm = v))
def wM (y : My) : Nat := if y.kind = 1 ∨ y.kind = 3 ∨ y.kind = 5 then 2 else 1
def wL : List My → Nat
 | [] => 0
 | y :: l => wM y + wL l
theorem wL_app : ∀ a b : List My, wL (a ++ b) = wL a + wL b
 | [], b => (Nat.zero_add _).symm
 | y :: a, b => by
  show wM y + wL (a ++ b) = wM y + wL a + wL b
  rw [wL_app a b]; omega
theorem wM_pos (y : My) : 1 ≤ wM y ∧ wM y ≤ 2 := by
 unfold wM
 split <;> omega
theorem zkg : ∀ a : List My, a.length ≤ wL a ∧ wL a ≤ 2 * a.length
 | [] => ⟨Nat.le_refl _, Nat.le_refl _⟩
 | y :: a => by
  have := zkg a
  have := wM_pos y
  show a.length + 1 ≤ wM y + wL a ∧ wM y + wL a ≤ 2 * (a.length + 1)
  omega
def rsv (ph : Nat) : Nat := if ph = 1 then 28 else if ph = 2 then 14 else 0
structure CP (c : Conf) (k0 ph : Nat) (s : Svn) (ms : List My) : Prop where
 p3 : 1 ≤ ph ∧ ph ≤ 3
 oth : ∀ v, v < 7 → v ≠ k0 → Oth c k0 ph (s.at v)
 lk : Lk c k0 ph (s.at k0)
 my : ∀ y ∈ ms, Mc k0 ph y
 pg : Pg c k0 ph (s.at k0) ms
theorem zgi {c : Conf} {k0 ph : Nat} (hk0 : k0 < 7) {s : Svn} {y z : My} {ms : List My} (h : CP c k0 ph s (y :: ms)) {v : Nat} (hv : v < 7) (hne : v ≠ k0) (hto : y.to = v) {R : Rft} (hO : Oth c k0 ph R) (hz : Mc k0 ph z)
    (z1 : y.kind = 1 → ph = 1 → z.kind = 2 ∧ z.frm = v) (z2 : y.kind = 3 → ph = 2 → z.kind = 4 ∧ z.frm = v) (z3 : y.kind = 5 → ph = 3 → z.kind = 6 ∧ z.frm = v) : CP c k0 ph (s.put v R) (ms ++ [z]) := by
 have hy := h.my y (List.mem_cons_self ..)
 have hup : ¬ (y.kind = 2 ∨ y.kind = 4 ∨ y.kind = 6) := fun e => by
  have := hy.up e
  omega
 have e0 : (s.put v R).at k0 = s.at k0 := by rw [Svn.put_at s R hv hk0, if_neg (Ne.symm hne)]
 refine ⟨h.p3, fun w hw hwk => ?_, by rw [e0]; exact h.lk, fun x hx => ?_, ?_⟩
 ·rw [Svn.put_at s R hv hw]
  split
  ·exact hO
  ·exact h.oth w hw hwk
 ·rcases List.mem_append.1 hx with hx | hx
  ·exact h.my x (List.mem_cons_of_mem _ hx)
  ·rw [List.mem_singleton.1 hx]; exact hz
 ·rw [e0]
  intro w hw hwk hwv
  obtain ⟨g1, g2, g3⟩ := h.pg w hw hwk hwv
  have hin : ∀ x ∈ ms, x ∈ ms ++ [z] := fun x hx => List.mem_append_left _ hx
  have hzin : z ∈ ms ++ [z] := List.mem_append_right _ (List.mem_singleton.2 rfl)
  refine ⟨fun e => ?_, fun e => ?_, fun e => ?_⟩
  ·rcases g1 e with g | ⟨x, hx, g⟩
   ·exact .inl g
   ·rcases List.mem_cons.1 hx with rfl | hx
    ·rcases g with ⟨a, b⟩ | ⟨a, b⟩
     ·obtain ⟨q1, q2⟩ := z1 a e
      exact .inr ⟨z, hzin, .inr ⟨q1, by omega⟩⟩
     ·exact absurd (.inl a) hup
    ·exact .inr ⟨x, hin x hx, g⟩
  ·rcases g2 e with g | ⟨x, hx, g⟩
   ·exact .inl g
   ·rcases List.mem_cons.1 hx with rfl | hx
    ·rcases g with ⟨a, b⟩ | ⟨a, b⟩
     ·obtain ⟨q1, q2⟩ := z2 a e
      exact .inr ⟨z, hzin, .inr ⟨q1, by omega⟩⟩
     ·exact absurd (.inr (.inl a)) hup
    ·exact .inr ⟨x, hin x hx, g⟩
  ·rcases g3 e with g | ⟨x, hx, g⟩
   ·exact .inl g
   ·rcases List.mem_cons.1 hx with rfl | hx
    ·rcases g with ⟨a, b⟩ | ⟨a, b⟩
     ·obtain ⟨q1, q2⟩ := z3 a e
      exact .inr ⟨z, hzin, .inr ⟨q1, by omega⟩⟩
     ·exact absurd (.inr (.inr a)) hup
    ·exact .inr ⟨x, hin x hx, g⟩
theorem zk9 {c : Conf} {k0 ph : Nat} (hk0 : k0 < 7) {s : Svn} {y : My} {ms : List My} (h : CP c k0 ph s (y :: ms)) (hto : y.to = k0) {R : Rft} (hL : Lk c k0 ph R)
    (v1 : ph ≠ 3 → ∀ w, w < 7 → tb (s.at k0).votes w = true → tb R.votes w = true) (v2 : ph = 3 → ∀ w, w < 7 → (s.at k0).mtch.at w = 1 → R.mtch.at w = 1)
    (z1 : y.kind = 2 → ph = 1 → tb R.votes y.frm.toNat = true) (z2 : y.kind = 4 → ph = 2 → tb R.votes y.frm.toNat = true) (z3 : y.kind = 6 → ph = 3 → R.mtch.at y.frm.toNat = 1) : CP c k0 ph (s.put k0 R) ms := by
 have hy := h.my y (List.mem_cons_self ..)
 have hdn : ¬ (y.kind = 1 ∨ y.kind = 3 ∨ y.kind = 5) := fun e => by
  have := hy.dn e
  exact hy.ne (by omega)
 have e0 : (s.put k0 R).at k0 = R := by rw [Svn.put_at s R hk0 hk0, if_pos rfl]
 refine ⟨h.p3, fun w hw hwk => ?_, by rw [e0]; exact hL, fun x hx => h.my x (List.mem_cons_of_mem _ hx), ?_⟩
 ·rw [Svn.put_at s R hk0 hw, if_neg hwk]
  exact h.oth w hw hwk
 ·rw [e0]
  intro w hw hwk hwv
  obtain ⟨g1, g2, g3⟩ := h.pg w hw hwk hwv
  refine ⟨fun e => ?_, fun e => ?_, fun e => ?_⟩
  ·rcases g1 e with g | ⟨x, hx, g⟩
   ·exact .inl (v1 (by omega) w hw g)
   ·rcases List.mem_cons.1 hx with rfl | hx
    ·rcases g with ⟨a, b⟩ | ⟨a, b⟩
     ·exact absurd (.inl a) hdn
     ·have := z1 a e
      rw [b, Int.toNat_natCast] at this
      exact .inl this
    ·exact .inr ⟨x, hx, g⟩
  ·rcases g2 e with g | ⟨x, hx, g⟩
   ·exact .inl (v1 (by omega) w hw g)
   ·rcases List.mem_cons.1 hx with rfl | hx
    ·rcases g with ⟨a, b⟩ | ⟨a, b⟩
     ·exact absurd (.inr (.inl a)) hdn
     ·have := z2 a e
      rw [b, Int.toNat_natCast] at this
      exact .inl this
    ·exact .inr ⟨x, hx, g⟩
  ·rcases g3 e with g | ⟨x, hx, g⟩
   ·exact .inl (v2 e w hw g)
   ·rcases List.mem_cons.1 hx with rfl | hx
    ·rcases g with ⟨a, b⟩ | ⟨a, b⟩
     ·exact absurd (.inr (.inr a)) hdn
     ·have := z3 a e
      rw [b, Int.toNat_natCast] at this
      exact .inl this
    ·exact .inr ⟨x, hx, g⟩
theorem Mc.up1 {k0 ph : Nat} {y : My} (h : Mc k0 ph y) (hp : 1 ≤ ph) (hp3 : ph ≤ 2) : Mc k0 (ph + 1) y :=
 ⟨h.frm, h.to, h.ne, h.rnd, h.ix, h.lt, h.kd, h.dn, h.up, h.m1, fun e => by obtain ⟨a, b, c, d⟩ := h.m2 e; exact ⟨a, b, c, fun e => by omega⟩, fun e => by have := h.m3 e; omega,
  fun e => by obtain ⟨a, b, c⟩ := h.m4 e; exact ⟨by omega, b, fun e => by omega⟩, fun e => by obtain ⟨a, _⟩ := h.m5 e; omega, fun e => by obtain ⟨a, _⟩ := h.m6 e; omega⟩
theorem Oth.up1 {c : Conf} {k0 ph : Nat} {r : Rft} (h : Oth c k0 ph r) (hp : ph = 1 ∨ ph = 2) : Oth c k0 (ph + 1) r := by
 refine ⟨h.role, h.com, h.hd, fun e => by omega, fun e => ?_⟩
 obtain ⟨a, _⟩ := h.p1 (by omega)
 obtain ⟨t, vo, L, e1, e2⟩ := h.hd
 rw [e1] at a ⊢
 have a : t = 0 := a
 rcases e2 with ⟨_, _, e2⟩ | ⟨e2, _⟩
 ·exact ⟨e2, .inl a⟩
 ·omega
theorem cp_up {c : Conf} {k0 ph : Nat} (hk0 : k0 < 7) (hph : ph = 1 ∨ ph = 2) {s : Svn} {y : My} {ms ys : List My} (h : CP c k0 ph s (y :: ms)) {R : Rft} (hL : Lk c k0 (ph + 1) R) (hys : ∀ x ∈ ys, Mc k0 (ph + 1) x)
    (hall : ∀ v : Nat, v < 7 → v ≠ k0 → tb (zbb c) v = true → ∃ x ∈ ys, x.kind = (if ph = 1 then 3 else 5) ∧ x.to = v) : CP c k0 (ph + 1) (s.put k0 R) (ms ++ ys) := by
 have e0 : (s.put k0 R).at k0 = R := by rw [Svn.put_at s R hk0 hk0, if_pos rfl]
 refine ⟨by omega, fun w hw hwk => ?_, by rw [e0]; exact hL, fun x hx => ?_, ?_⟩
 ·rw [Svn.put_at s R hk0 hw, if_neg hwk]
  exact (h.oth w hw hwk).up1 hph
 ·rcases List.mem_append.1 hx with hx | hx
  ·exact (h.my x (List.mem_cons_of_mem _ hx)).up1 (by omega) (by omega)
  ·exact hys x hx
 ·rw [e0]
  intro w hw hwk hwv
  obtain ⟨x, hx, a, b⟩ := hall w hw hwk hwv
  refine ⟨fun e => by omega, fun e => ?_, fun e => ?_⟩
  ·rw [if_pos (by omega)] at a
   exact .inr ⟨x, List.mem_append_right _ hx, .inl ⟨a, b⟩⟩
  ·rw [if_neg (by omega)] at a
   exact .inr ⟨x, List.mem_append_right _ hx, .inl ⟨a, b⟩⟩
structure Took (c : Conf) (k0 ph : Nat) (s : Svn) (y : My) (ms : List My) (R : Rft) (ys : List My) (ph' : Nat) : Prop where
 tk : TK (s.at y.to.toNat) y.mg R (ys.map My.enc) 0
 cp : CP c k0 ph' (s.put y.to.toNat R) (ms ++ ys)
 pot : wL ys + rsv ph' + 1 ≤ wM y + rsv ph
theorem hdC_lastI (c : Conf) (t vo : Int) : lastI (hdC c t vo []) = 0 := rfl
theorem newer_C (c : Conf) (t vo : Int) : newer (hdC c t vo []) 0 0 = true := rfl
theorem mc_up {k0 ph : Nat} {kd fr to tm ix rd : Int} {ye : Bool} (hkd : kd = 2 ∨ kd = 4 ∨ kd = 6) (hf : 0 ≤ fr ∧ fr < 7) (ht : to = k0) (hk0 : k0 < 7) (hne : fr ≠ k0) (hr : 0 ≤ rd ∧ rd ≤ 1099511627776) (hix : 0 ≤ ix ∧ ix ≤ 1)
    (h2 : kd = 2 → 0 ≤ tm ∧ tm ≤ 1 ∧ (ye = true → tm = 1) ∧ (ph = 1 → ye = true)) (h4 : kd = 4 → 2 ≤ ph ∧ tm = 1 ∧ (ph = 2 → ye = true)) (h6 : kd = 6 → ph = 3 ∧ tm = 1 ∧ ix = 1 ∧ ye = true) : Mc k0 ph ⟨kd, fr, to, tm, ix, 0, 0, rd, ye, cz, .no⟩ :=
 ⟨hf, by show 0 ≤ to ∧ to < 7; omega, by show fr ≠ to; omega, hr, hix, rfl, by show 1 ≤ kd ∧ kd ≤ 6; omega, fun e => absurd e (by show ¬ (kd = 1 ∨ kd = 3 ∨ kd = 5); omega), fun _ => ht, fun e => absurd e (by show ¬ (kd = 1 ∨ kd = 3); omega), h2,
  fun e => absurd e (by show ¬ kd = 3; omega), h4, fun e => absurd e (by show ¬ kd = 5; omega), h6⟩
structure For (k0 : Nat) (y : My) (v : Nat) : Prop where
 v7 : v < 7
 vk : v ≠ k0
 to : y.to = v
 nat : y.to.toNat = v
 frm : y.frm = k0
theorem for_dn {k0 ph : Nat} {y : My} (hy : Mc k0 ph y) (hk : y.kind = 1 ∨ y.kind = 3 ∨ y.kind = 5) : ∃ v, For k0 y v := by
 have hto := hy.to
 have hfr := hy.dn hk
 have hne := hy.ne
 exact ⟨y.to.toNat, by omega, by omega, by omega, rfl, hfr⟩
theorem took_1 {c : Conf} {k0 ph : Nat} (hk0 : k0 < 7) {n : Nat} {s : Svn} {y : My} {ms : List My} (hp : Ply n s (y :: ms)) (h : CP c k0 ph s (y :: ms)) (hk : y.kind = 1) : ∃ R ys ph', Took c k0 ph s y ms R ys ph' := by
 have hy := h.my y (List.mem_cons_self ..)
 obtain ⟨v, F⟩ := for_dn hy (.inl hk)
 have hid : (s.at v).id = v := (hp.rp v F.v7).id
 have hv7 := F.v7
 have hvk := F.vk
 obtain ⟨t1, t2⟩ := hy.m1 (.inl hk)
 have ho := h.oth v F.v7 F.vk
 obtain ⟨t, vo, L, e1, e2⟩ := ho.hd
 have hterm : 0 ≤ (s.at v).hard.term ∧ (s.at v).hard.term ≤ 1 := by
  rw [e1]
  show 0 ≤ t ∧ t ≤ 1
  rcases e2 with ⟨a, _⟩ | ⟨a, _⟩ <;> omega
 have htk : TK (s.at v) y.mg (s.at v) (zks (s.at v) y.mg) 0 := .asked hk
 have hask : ph = 1 → asked (s.at v) y.mg = true := fun e => by
  obtain ⟨p1, p2⟩ := ho.p1 e
  have p1' : t = 0 := by rw [e1] at p1; exact p1
  have eL : L = [] := by
   rcases e2 with ⟨_, _, a⟩ | ⟨a, _⟩
   ·exact a
   ·omega
  unfold asked
  rw [Bool.and_eq_true, Bool.and_eq_true, Bool.and_eq_true, decide_eq_true_eq, decide_eq_true_eq]
  refine ⟨by show (s.at v).hard.term < y.term; omega, ?_, p2, ?_⟩
  ·rw [ho.role]; rfl
  ·rw [e1, eL]
   show newer (hdC c t vo []) y.index y.logT = true
   rw [t2, hy.lt]
   exact newer_C c t vo
 have hw : wM y = 2 := if_pos (.inl hk)
 unfold zks at htk
 cases ha : asked (s.at v) y.mg with
 | true =>
  rw [ha, if_pos rfl] at htk
  refine ⟨s.at v, [⟨2, (s.at v).id, y.frm, y.term, 0, 0, 0, 0, true, cz, .no⟩], ph, ⟨by rw [F.nat]; exact htk, ?_, by rw [hw]; show 1 + 0 + rsv ph + 1 ≤ 2 + rsv ph; omega⟩⟩
  rw [F.nat]
  exact zgi hk0 h hv7 hvk F.to ho (mc_up (.inl rfl) (by omega) F.frm hk0 (by omega) (by decide) (by decide) (fun _ => ⟨by omega, by omega, fun _ => t1, fun _ => rfl⟩) (fun e => absurd e (by decide)) (fun e => absurd e (by decide))) (fun _ _ => ⟨rfl, hid⟩) (fun e => by omega) (fun e => by omega)
 | false =>
  rw [ha, if_neg (by decide)] at htk
  refine ⟨s.at v, [⟨2, (s.at v).id, y.frm, (s.at v).hard.term, 0, 0, 0, 0, false, cz, .no⟩], ph, ⟨by rw [F.nat]; exact htk, ?_, by rw [hw]; show 1 + 0 + rsv ph + 1 ≤ 2 + rsv ph; omega⟩⟩
  rw [F.nat]
  exact zgi hk0 h hv7 hvk F.to ho (mc_up (.inl rfl) (by omega) F.frm hk0 (by omega) (by decide) (by decide) (fun _ => ⟨hterm.1, hterm.2, fun e => (by cases e), fun e => by rw [hask e] at ha; cases ha⟩) (fun e => absurd e (by decide)) (fun e => absurd e (by decide))) (fun _ e => by rw [hask e] at ha; cases ha) (fun e => by omega) (fun e => by omega)
theorem oth_x {c : Conf} {k0 ph : Nat} {r : Rft} (h : Oth c k0 ph r) {m : Mg} (ht : m.term = 1) : (tkX r m).role = 0 ∧ (tkX r m).commit = 0 ∧ ∃ vo L, (tkX r m).hard = hdC c 1 vo L ∧ (vo = -1 ∨ vo = k0) ∧ (L = [] ∨ L = [et 1]) ∧ (ph = 2 → L = []) := by
 obtain ⟨t, vo, L, e1, e2⟩ := h.hd
 have hL2 : ph = 2 → L = [] := fun e => by
  have := (h.p2 e).1
  rw [e1] at this; exact this
 rcases e2 with ⟨a, b, d⟩ | ⟨a, b, d⟩
 ·have hlt : r.hard.term < m.term := by rw [e1, ht]; show t < 1; omega
  rw [ze5 hlt]
  refine ⟨rfl, h.com, -1, [], ?_, .inl rfl, .inl rfl, fun _ => rfl⟩
  show (if m.term > r.hard.term then { r.hard with term := m.term, vote := -1 } else r.hard : Hrd) = _
  rw [if_pos hlt, e1, ht, d]
 ·have heq : m.term = r.hard.term := by rw [e1, ht]; exact a.symm
  rw [zea heq]
  exact ⟨h.role, h.com, vo, L, by rw [e1, a], b, d, hL2⟩
theorem not_lt_1 {c : Conf} {k0 ph : Nat} {r : Rft} (h : Oth c k0 ph r) {m : Mg} (ht : m.term = 1) : ¬ m.term < r.hard.term := by
 obtain ⟨t, vo, L, e1, e2⟩ := h.hd
 rw [e1, ht]
 show ¬ 1 < t
 rcases e2 with ⟨a, _⟩ | ⟨a, _⟩ <;> omega
theorem took_3 {c : Conf} {k0 ph : Nat} (hk0 : k0 < 7) {n : Nat} {s : Svn} {y : My} {ms : List My} (hp : Ply n s (y :: ms)) (h : CP c k0 ph s (y :: ms)) (hk : y.kind = 3) : ∃ R ys ph', Took c k0 ph s y ms R ys ph' := by
 have hy := h.my y (List.mem_cons_self ..)
 obtain ⟨v, F⟩ := for_dn hy (.inr (.inl hk))
 have hid : (s.at v).id = v := (hp.rp v F.v7).id
 have hv7 := F.v7
 have hvk := F.vk
 obtain ⟨t1, t2⟩ := hy.m1 (.inr hk)
 have hph := hy.m3 hk
 have ho := h.oth v F.v7 F.vk
 have htm : y.mg.term = 1 := t1
 obtain ⟨x1, x2, vo, L, x3, x4, x5, x6⟩ := oth_x ho htm
 have htk : TK (s.at v) y.mg (k3R (tkX (s.at v) y.mg) y.mg) (k3O (tkX (s.at v) y.mg) y.mg) 0 := .k3 hk (not_lt_1 ho htm)
 have xid : (tkX (s.at v) y.mg).id = v := (tkx_id ..).trans hid
 have hvo2 : ph = 2 → voted (tkX (s.at v) y.mg) y.mg = true := fun e => by
  have eL := x6 e
  have p2 := (ho.p2 e).2
  unfold voted
  rw [x3, eL]
  rw [Bool.and_eq_true, Bool.and_eq_true, beq_iff_eq, Bool.or_eq_true, beq_iff_eq, beq_iff_eq]
  refine ⟨htm, ?_, ?_⟩
  ·rcases x4 with a | a
   ·exact .inl a
   ·exact .inr (a.trans F.frm.symm)
  ·show newer (hdC c 1 vo []) y.index y.logT = true
   rw [t2, hy.lt]
   exact newer_C c 1 vo
 have hw : wM y = 2 := if_pos (.inr (.inl hk))
 generalize tkX (s.at v) y.mg = x at *
 unfold k3R k3O at htk
 cases ha : voted x y.mg with
 | true =>
  rw [ha, if_pos rfl, if_pos rfl] at htk
  have eH : (fallR (vdR x y.mg) x.hard.term (-1)).hard = hdC c 1 k0 L := by
   rw [show (fallR (vdR x y.mg) x.hard.term (-1)).hard = (vdR x y.mg).hard from zeb (vdR x y.mg) (-1)]
   show ({ x.hard with vote := y.frm } : Hrd) = _
   rw [x3, F.frm]
  refine ⟨_, [⟨4, (fallR (vdR x y.mg) x.hard.term (-1)).id, y.frm, (fallR (vdR x y.mg) x.hard.term (-1)).hard.term, 0, 0, 0, 0, true, cz, .no⟩], ph, ⟨by rw [F.nat]; exact htk, ?_, by rw [hw]; show 1 + 0 + rsv ph + 1 ≤ 2 + rsv ph; omega⟩⟩
  rw [F.nat]
  have hO : Oth c k0 ph (fallR (vdR x y.mg) x.hard.term (-1)) := ⟨rfl, x2, ⟨1, k0, L, eH, .inr ⟨rfl, .inr rfl, x5⟩⟩, fun e => by omega, fun e => ⟨by rw [eH]; exact x6 e, .inr (by rw [eH])⟩⟩
  exact zgi hk0 h hv7 hvk F.to hO (mc_up (.inr (.inl rfl)) (by show 0 ≤ x.id ∧ x.id < 7; omega) F.frm hk0 (by show x.id ≠ k0; omega) (by decide) (by decide) (fun e => absurd e (by decide)) (fun _ => ⟨hph, by rw [eH], fun _ => rfl⟩) (fun e => absurd e (by decide))) (fun e => by omega) (fun _ _ => ⟨rfl, xid⟩) (fun e => by omega)
 | false =>
  rw [ha, if_neg (by decide), if_neg (by decide)] at htk
  refine ⟨_, [⟨4, x.id, y.frm, x.hard.term, 0, 0, 0, 0, false, cz, .no⟩], ph, ⟨by rw [F.nat]; exact htk, ?_, by rw [hw]; show 1 + 0 + rsv ph + 1 ≤ 2 + rsv ph; omega⟩⟩
  rw [F.nat]
  have hO : Oth c k0 ph x := ⟨x1, x2, ⟨1, vo, L, x3, .inr ⟨rfl, x4, x5⟩⟩, fun e => by omega, fun e => by rw [hvo2 e] at ha; cases ha⟩
  exact zgi hk0 h hv7 hvk F.to hO (mc_up (.inr (.inl rfl)) (by omega) F.frm hk0 (by omega) (by decide) (by decide) (fun e => absurd e (by decide)) (fun _ => ⟨hph, by rw [x3], fun e => by rw [hvo2 e] at ha; cases ha⟩) (fun e => absurd e (by decide))) (fun e => by omega) (fun _ e => by rw [hvo2 e] at ha; cases ha) (fun e => by omega)
theorem zki {c : Conf} {t vo : Int} {L : List Ent} (hL : L = [] ∨ L = [et 1]) : NoC c (hdC c t vo L) := by
 refine ⟨rfl, fun x hx => ?_⟩
 have hx : x ∈ L := hx
 rcases hL with rfl | rfl
 ·exact absurd hx List.not_mem_nil
 ·rw [List.mem_singleton.1 hx]; show ¬ (0 : Int) = 2; decide
theorem for_up {k0 ph : Nat} {y : My} (hy : Mc k0 ph y) (hk : y.kind = 2 ∨ y.kind = 4 ∨ y.kind = 6) : y.to.toNat = k0 ∧ y.to = k0 ∧ y.frm.toNat < 7 ∧ ((y.frm.toNat : Nat) : Int) = y.frm ∧ y.frm.toNat ≠ k0 := by
 have hto := hy.up hk
 have hfr := hy.frm
 have hne := hy.ne
 exact ⟨by omega, hto, by omega, by omega, by omega⟩
theorem wM_up {y : My} (hk : y.kind = 2 ∨ y.kind = 4 ∨ y.kind = 6) : wM y = 1 := if_neg (by omega)
theorem took_idle {c : Conf} {k0 ph : Nat} (hk0 : k0 < 7) {s : Svn} {y : My} {ms : List My} (h : CP c k0 ph s (y :: ms)) (hk : y.kind = 2 ∨ y.kind = 4) (hph : y.kind = 2 → ph ≠ 1) (hph2 : y.kind = 4 → ph = 3) (ht : TK (s.at k0) y.mg (s.at k0) [] 0) : ∃ R ys ph', Took c k0 ph s y ms R ys ph' := by
 have hy := h.my y (List.mem_cons_self ..)
 obtain ⟨f1, f2, _⟩ := for_up hy (by omega)
 have hw := wM_up (y := y) (by omega)
 refine ⟨s.at k0, [], ph, ⟨by rw [f1]; exact ht, ?_, by rw [hw]; show 0 + rsv ph + 1 ≤ 1 + rsv ph; omega⟩⟩
 rw [f1, List.append_nil]
 exact zk9 hk0 h f2 h.lk (fun _ _ _ a => a) (fun _ _ _ a => a) (fun a b => absurd b (hph a)) (fun a b => by have := hph2 a; omega) (fun a => by omega)
theorem tb_vt2 {x : Rft} {m : Mg} (hf : 0 ≤ m.frm ∧ m.frm < 7) : tb (bor x.votes (shl 1 m.frm)) m.frm.toNat = true := by
 rw [tb_or, Bool.or_eq_true]
 refine .inr ?_
 have e : tb (shl 1 ((m.frm.toNat : Nat) : Int)) m.frm.toNat = true := by rw [zdu _ _ (by omega), decide_eq_true_eq]
 rw [show ((m.frm.toNat : Nat) : Int) = m.frm from Int.toNat_of_nonneg hf.1] at e
 exact e
theorem tb_vt1 {x : Rft} {m : Mg} {w : Nat} (h : tb x.votes w = true) : tb (bor x.votes (shl 1 m.frm)) w = true := by
 rw [tb_or, h]; rfl
theorem took_2 {c : Conf} {k0 ph : Nat} (h2 : 2 ≤ count (zbb c)) (hk0 : k0 < 7) {n : Nat} {s : Svn} {y : My} {ms : List My} (hp : Ply n s (y :: ms)) (h : CP c k0 ph s (y :: ms)) (hk : y.kind = 2) : ∃ R ys ph', Took c k0 ph s y ms R ys ph' := by
 have hy := h.my y (List.mem_cons_self ..)
 obtain ⟨f1, f2, f3, f4, f5⟩ := for_up hy (.inl hk)
 have hid : (s.at k0).id = k0 := (hp.rp k0 hk0).id
 have hw := wM_up (y := y) (.inl hk)
 obtain ⟨m1, m2, m3, m4⟩ := hy.m2 hk
 have p3 := h.p3
 by_cases hph : ph = 1
 ·subst hph
  obtain ⟨a1, a2, a3, a4, a5⟩ := h.lk.k1 rfl
  have hye := m4 rfl
  have htm : y.mg.term = 1 := m3 hye
  have htk : TK (s.at k0) y.mg (k2R (s.at k0) y.mg) (k2O (s.at k0) y.mg) 0 := .k2 hk hye (by rw [a2]; show ¬ y.mg.term < 0; omega)
  have xH : (vtR (s.at k0) y.mg).hard = hdC c 0 (-1) [] := a2
  have xF : zac (vtR (s.at k0) y.mg) = c := NoC.force (by rw [xH]; exact zki (.inl rfl))
  have xI : (vtR (s.at k0) y.mg).id = k0 := hid
  have xC : (vtR (s.at k0) y.mg).commit = 0 := a3
  have xR : (vtR (s.at k0) y.mg).role = 1 := a1
  have v1 : ∀ w, w < 7 → tb (s.at k0).votes w = true → tb (vtR (s.at k0) y.mg).votes w = true := fun w _ hw => tb_vt1 hw
  have v2 : tb (vtR (s.at k0) y.mg).votes y.frm.toNat = true := tb_vt2 (x := s.at k0) (m := y.mg) hy.frm
  have ht1 : y.mg.term = (s.at k0).hard.term + 1 := by rw [a2, htm]; rfl
  unfold k2R k2O at htk
  rw [if_pos a1, if_pos a1, if_pos ht1, if_pos ht1, xF] at htk
  clear ht1
  generalize vtR (s.at k0) y.mg = x at *
  by_cases hq : zas c x.votes = true
  ·rw [if_pos hq, if_pos hq] at htk
   have sF : zac (stdR x) = c := NoC.force (by
    show NoC c ({ x.hard with term := x.hard.term + 1, vote := x.id } : Hrd)
    rw [xH]
    exact zki (t := 0 + 1) (.inl rfl))
   have ht9 : ¬ x.hard.term = 1099511627776 := by rw [xH]; show ¬ (0 : Int) = _; decide
   have hq9 : ¬ zas c (shl 1 (k0 : Int)) = true := by rw [zdh hk0 h2]; decide
   unfold zed zfr at htk
   rw [if_neg ht9, if_neg ht9, sF, xI, if_neg hq9, if_neg hq9] at htk
   have sH : (stdR x).hard = hdC c 1 k0 [] := by
    show ({ x.hard with term := x.hard.term + 1, vote := x.id } : Hrd) = _
    rw [xH, xI]; rfl
   have sI : (stdR x).id = k0 := xI
   have sT : x.hard.term + 1 = 1 := by rw [xH]; rfl
   have hvl : votL (stdR x) = othN k0 (zbb c) 7 := by
    show othN (stdR x).id (bor (zac (stdR x)).full (zac (stdR x)).wit) 7 = _
    rw [sF, sI]
   have hlen : (votL (stdR x)).length ≤ 7 := zcd ..
   have sC : (stdR x).commit = 0 := xC
   have sV : (stdR x).votes = shl 1 k0 := by show shl 1 x.id = _; rw [xI]
   have sR : (stdR x).role = 2 := rfl
   generalize stdR x = S at *
   refine ⟨S, (votL S).map (fun i => ⟨3, S.id, i, x.hard.term + 1, lastI S.hard, lastT S.hard, 0, 0, false, cz, .no⟩), 2, ⟨by rw [f1, List.map_map]; exact htk, ?_, ?_⟩⟩
   ·rw [f1]
    refine cp_up hk0 (.inl rfl) h (R := S) ⟨fun e => by omega, fun _ => ⟨sR, sH, sC, by rw [sV, zdu k0 k0 (by omega), decide_eq_true_eq], by rw [sV]; exact zdh hk0 h2⟩, fun e => by omega⟩ (fun z hz => ?_) (fun v hv hvk hvt => ?_)
    ·obtain ⟨i, hi, rfl⟩ := List.mem_map.1 hz
     rw [hvl] at hi
     have hr := zc5 hi
     have hne := zg2 hi
     exact ⟨by show 0 ≤ S.id ∧ S.id < 7; omega, hr, by show S.id ≠ i; omega, by show (0 : Int) ≤ 0 ∧ (0 : Int) ≤ _; decide, by show 0 ≤ lastI S.hard ∧ lastI S.hard ≤ 1; rw [sH, hdC_lastI]; decide, by show lastT S.hard = 0; rw [sH]; rfl, by show (1 : Int) ≤ 3 ∧ (3 : Int) ≤ 6; decide, fun _ => sI, fun e => absurd e (by show ¬ ((3 : Int) = 2 ∨ (3 : Int) = 4 ∨ (3 : Int) = 6); decide), fun _ => ⟨sT, by show lastI S.hard = 0; rw [sH]; rfl⟩, fun e => absurd e (by show ¬ (3 : Int) = 2; decide), fun _ => Nat.le_refl _, fun e => absurd e (by show ¬ (3 : Int) = 4; decide), fun e => absurd e (by show ¬ (3 : Int) = 5; decide), fun e => absurd e (by show ¬ (3 : Int) = 6; decide)⟩
    ·refine ⟨_, List.mem_map.2 ⟨(v : Int), by rw [hvl]; exact zhn hv (by omega) hvt, rfl⟩, rfl, rfl⟩
   ·have := zkg ((votL S).map (fun i => (⟨3, S.id, i, x.hard.term + 1, lastI S.hard, lastT S.hard, 0, 0, false, cz, .no⟩ : My)))
    rw [List.length_map] at this
    rw [hw]
    show _ + 14 + 1 ≤ 1 + 28
    omega
  ·rw [if_neg hq, if_neg hq] at htk
   refine ⟨x, [], 1, ⟨by rw [f1]; exact htk, ?_, by rw [hw]; show 0 + rsv 1 + 1 ≤ 1 + rsv 1; omega⟩⟩
   rw [f1, List.append_nil]
   have hq : zas c x.votes = false := by cases hh : zas c x.votes with | false => rfl | true => exact absurd hh hq
   exact zk9 hk0 h f2 ⟨fun _ => ⟨xR, xH, xC, v1 k0 hk0 a4, hq⟩, fun e => by omega, fun e => by omega⟩ (fun _ => v1) (fun e => by omega) (fun _ _ => v2) (fun e => by omega) (fun e => by omega)
 ·have hT : (s.at k0).hard.term = 1 ∧ (s.at k0).role ≠ 1 := by
    rcases (by omega : ph = 2 ∨ ph = 3) with e | e
    ·obtain ⟨a1, a2, _⟩ := h.lk.k2 e
     rw [a1, a2]; exact ⟨rfl, by decide⟩
    ·obtain ⟨a1, a2, _⟩ := h.lk.k3 e
     rw [a1, a2]; exact ⟨rfl, by decide⟩
  refine took_idle hk0 h (.inl hk) (fun _ => hph) (fun e => by omega) ?_
  by_cases ht : y.term < 1
  ·have htk : TK (s.at k0) y.mg (s.at k0) (zi5 (s.at k0) y.mg) 0 := .old (by show ¬ y.kind = 1; omega) (by rw [hT.1]; exact ht)
   unfold zi5 at htk
   rw [if_neg (by show ¬ y.kind = 3; omega), if_neg (by show ¬ (y.kind = 5 ∨ y.kind = 7); omega)] at htk
   exact htk
  ·have he : y.mg.term = (s.at k0).hard.term := by rw [hT.1]; show y.term = 1; omega
   cases hye : y.yes with
   | true =>
    have htk : TK (s.at k0) y.mg (k2R (s.at k0) y.mg) (k2O (s.at k0) y.mg) 0 := .k2 hk hye (by omega)
    unfold k2R k2O at htk
    rw [if_neg hT.2, if_neg hT.2] at htk
    exact htk
   | false =>
    have htk : TK (s.at k0) y.mg (tkX (s.at k0) y.mg) [] 0 := .no (.inl hk) hye (by omega)
    rw [zea he] at htk
    exact htk
theorem hdC1_lastI (c : Conf) (t vo : Int) : lastI (hdC c t vo [et 1]) = 1 := rfl
theorem hit_C {c : Conf} {vo : Int} (m : Arr) : hit (hdC c 1 vo [et 1]) m 1 = zas c (haveB m 1 7) := by
 unfold hit
 rw [show fits (hdC c 1 vo [et 1]) 1 (hdC c 1 vo [et 1]).term = true from rfl, Bool.true_and]
 rw [show (force (hdC c 1 vo [et 1]) (lastI (hdC c 1 vo [et 1]))).1 = c from ((fwd_no (zki (c := c) (t := 1) (vo := vo) (.inr rfl)).no _ _).1).trans rfl]
theorem commit_C0 {c : Conf} {vo : Int} (m : Arr) : zcu (hdC c 1 vo [et 1]) 0 m = if zas c (haveB m 1 7) = true then 1 else 0 := by
 show (if (0 : Int) < 0 + 1 then (if hit (hdC c 1 vo [et 1]) m (0 + 1) = true then (0 : Int) + 1 else if (0 : Int) < 0 + 0 then (if hit (hdC c 1 vo [et 1]) m (0 + 0) = true then (0 : Int) + 0 else 0) else 0) else 0) = _
 rw [if_pos (by decide), if_neg (by decide : ¬ (0 : Int) < 0 + 0), show (0 : Int) + 1 = 1 from rfl, hit_C]
theorem commit_C1 {c : Conf} {vo : Int} (m : Arr) : zcu (hdC c 1 vo [et 1]) 1 m = 1 := rfl
theorem zkv (m : Arr) (n : Int) (i : Nat) : ∀ k : Nat, k ≤ 7 → i < k → n ≤ m.at i → tb (haveB m n k) i = true
 | 0, _, hi, _ => absurd hi (Nat.not_lt_zero i)
 | k + 1, hk, hi, h => by
  by_cases e : i = k
  ·subst e
   rw [show haveB m n (i + 1) = bor (haveB m n i) (shl 1 i) from if_pos h, tb_or, zdu i i (by omega), decide_eq_true rfl, Bool.or_true]
  ·have ih := zkv m n i k (by omega) (by omega) h
   by_cases hc : n ≤ m.at k
   ·rw [show haveB m n (k + 1) = bor (haveB m n k) (shl 1 k) from if_pos hc, tb_or, ih]; rfl
   ·rw [show haveB m n (k + 1) = haveB m n k from if_neg hc]; exact ih
theorem took_4 {c : Conf} {k0 ph : Nat} (h2 : 2 ≤ count (zbb c)) (hk0 : k0 < 7) {n : Nat} (hn : n ≤ 199) {s : Svn} {y : My} {ms : List My} (hp : Ply n s (y :: ms)) (h : CP c k0 ph s (y :: ms)) (hk : y.kind = 4) : ∃ R ys ph', Took c k0 ph s y ms R ys ph' := by
 have hy := h.my y (List.mem_cons_self ..)
 obtain ⟨f1, f2, f3, f4, f5⟩ := for_up hy (.inr (.inl hk))
 have hid : (s.at k0).id = k0 := (hp.rp k0 hk0).id
 have hw := wM_up (y := y) (.inr (.inl hk))
 obtain ⟨m1, m2, m3⟩ := hy.m4 hk
 have p3 := h.p3
 by_cases hph : ph = 2
 ·subst hph
  obtain ⟨a1, a2, a3, a4, a5⟩ := h.lk.k2 rfl
  have hye := m3 rfl
  have htm : y.mg.term = 1 := m2
  have he : y.mg.term = (s.at k0).hard.term := by rw [a2, htm]
  have htk : TK (s.at k0) y.mg (k4R (tkX (s.at k0) y.mg) y.mg) (k4O (tkX (s.at k0) y.mg) y.mg) 0 := .k4 hk hye (by omega)
  rw [zea he] at htk
  have xH : (vtR (s.at k0) y.mg).hard = hdC c 1 k0 [] := a2
  have xF : zac (vtR (s.at k0) y.mg) = c := NoC.force (by rw [xH]; exact zki (.inl rfl))
  have xI : (vtR (s.at k0) y.mg).id = k0 := hid
  have xC : (vtR (s.at k0) y.mg).commit = 0 := a3
  have xR : (vtR (s.at k0) y.mg).role = 2 := a1
  have v1 : ∀ w, w < 7 → tb (s.at k0).votes w = true → tb (vtR (s.at k0) y.mg).votes w = true := fun w _ hw => tb_vt1 hw
  have v2 : tb (vtR (s.at k0) y.mg).votes y.frm.toNat = true := tb_vt2 (x := s.at k0) (m := y.mg) hy.frm
  have xP : Rp n k0 (vtR (s.at k0) y.mg) := vt_rp (hp.rp k0 hk0) hy.frm
  unfold k4R k4O at htk
  rw [if_pos a1, if_pos a1, xF] at htk
  generalize vtR (s.at k0) y.mg = x at *
  by_cases hq : zas c x.votes = true
  ·rw [if_pos hq, if_pos hq] at htk
   have xT : x.hard.term = 1 := by rw [xH]
   have sH : (leadR x).hard = hdC c 1 k0 [et 1] := by
    show ({ x.hard with log := x.hard.log ++ [et x.hard.term] } : Hrd) = _
    rw [xH]; rfl
   have sL : lastI (logR x (et x.hard.term)) = 1 := by
    show lastI (leadR x).hard = 1
    rw [sH]; rfl
   have sI : (leadR x).id = k0 := xI
   have sF : zac (leadR x) = c := NoC.force (by rw [sH]; exact zki (.inr rfl))
   have sN : ∀ i, i < 7 → (leadR x).next.at i = 1 := fun i hi => by
    show (allA (lastI (logR x (et x.hard.term)))).at i = 1
    rw [allA_at _ i hi, sL]
   have sM : ∀ i, i < 7 → (leadR x).mtch.at i = if i = k0 then 1 else 0 := fun i hi => by
    show (zA.put x.id.toNat (lastI (logR x (et x.hard.term)))).at i = _
    rw [xI, Int.toNat_natCast, zk8 _ _ hk0 hi, sL, zA_at i hi]
   have sS : ∀ v, v < 7 → (leadR x).silent.at v = 0 := fun v hv => zA_at v hv
   have sR : (leadR x).role = 3 := rfl
   have sC : (leadR x).commit = if zas c (haveB (leadR x).mtch 1 7) = true then 1 else 0 := by
    have e : (leadR x).commit = zcu (leadR x).hard x.commit (leadR x).mtch := rfl
    rw [e, sH, xC, commit_C0]
   have sQ : zas c (haveB (leadR x).mtch 1 7) = false := zjw h2 hk0 fun i hi _ ht => by
    have := zky _ 1 i 7 (Nat.le_refl _) ht
    rw [sM i hi] at this
    apply Classical.byContradiction
    intro hne
    rw [if_neg hne] at this
    omega
   have sC0 : (leadR x).commit = 0 := by rw [sC, sQ]; rfl
   have sRd := (lead_rp xP (by omega) (by omega)).rgt.round
   have hal : allL (leadR x) = othN k0 (bor (bor (bor c.full c.wit) c.learn) c.lwit) 7 := by
    show othN (leadR x).id (bor (bor (bor (zac (leadR x)).full (zac (leadR x)).wit) (zac (leadR x)).learn) (zac (leadR x)).lwit) 7 = _
    rw [sF, sI]
   have hlen : (allL (leadR x)).length ≤ 7 := zcd ..
   generalize leadR x = S at *
   have hrow : (allL S).map (zay S) = ((allL S).map fun i => (⟨5, S.id, i, S.hard.term, feedP S.hard (S.next.at i.toNat), zbc S.hard (feedP S.hard (S.next.at i.toNat)), S.commit, S.round, false, cz, .es (feedL S.hard (S.next.at i.toNat))⟩ : My)).map My.enc := by
    rw [List.map_map]
    refine List.map_congr_left fun i hi => ?_
    rw [hal] at hi
    have hr := zc5 hi
    unfold zay
    rw [if_neg (by rw [sN i.toNat (by omega), sH]; show ¬ (1 : Int) ≤ 0; decide)]
    rfl
   rw [hrow] at htk
   refine ⟨S, _, 3, ⟨by rw [f1]; exact htk, ?_, ?_⟩⟩
   ·rw [f1]
    refine cp_up hk0 (.inr rfl) h (R := S) ⟨fun e => by omega, fun e => by omega, fun _ => ⟨sR, sH, sS, by rw [sM k0 hk0, if_pos rfl], fun v hv => by rw [sM v hv]; split; exact .inr rfl; exact .inl rfl, sC⟩⟩ (fun z hz => ?_) (fun v hv hvk hvt => ?_)
    ·obtain ⟨i, hi, rfl⟩ := List.mem_map.1 hz
     rw [hal] at hi
     have hr := zc5 hi
     have hne := zg2 hi
     have e1 := sN i.toNat (by omega)
     exact ⟨by show 0 ≤ S.id ∧ S.id < 7; omega, hr, by show S.id ≠ i; omega, sRd, by show 0 ≤ feedP S.hard (S.next.at i.toNat) ∧ feedP S.hard (S.next.at i.toNat) ≤ 1; rw [e1, sH]; exact ⟨Int.le_refl _, (by decide : (0 : Int) ≤ 1)⟩, by show zbc S.hard (feedP S.hard (S.next.at i.toNat)) = 0; rw [e1, sH]; rfl, by show (1 : Int) ≤ 5 ∧ (5 : Int) ≤ 6; decide, fun _ => sI, fun e => absurd e (by show ¬ ((5 : Int) = 2 ∨ (5 : Int) = 4 ∨ (5 : Int) = 6); decide), fun e => absurd e (by show ¬ ((5 : Int) = 1 ∨ (5 : Int) = 3); decide), fun e => absurd e (by show ¬ (5 : Int) = 2; decide), fun e => absurd e (by show ¬ (5 : Int) = 3; decide), fun e => absurd e (by show ¬ (5 : Int) = 4; decide),
      fun _ => ⟨rfl, by show S.hard.term = 1; rw [sH], by show feedP S.hard (S.next.at i.toNat) = 0; rw [e1, sH]; rfl, by show Bd.es (feedL S.hard (S.next.at i.toNat)) = .es [et 1]; rw [e1, sH]; rfl, sC0⟩, fun e => absurd e (by show ¬ (5 : Int) = 6; decide)⟩
    ·refine ⟨_, List.mem_map.2 ⟨(v : Int), ?_, rfl⟩, rfl, rfl⟩
     rw [hal]
     refine zhn hv (by omega) ?_
     rw [tb_or, tb_or, show tb (bor c.full c.wit) v = true from hvt]; rfl
   ·have hl := zkg ((allL S).map fun i => (⟨5, S.id, i, S.hard.term, feedP S.hard (S.next.at i.toNat), zbc S.hard (feedP S.hard (S.next.at i.toNat)), S.commit, S.round, false, cz, .es (feedL S.hard (S.next.at i.toNat))⟩ : My))
    rw [List.length_map] at hl
    rw [hw]
    show _ + 0 + 1 ≤ 1 + 14
    omega
  ·rw [if_neg hq, if_neg hq] at htk
   refine ⟨x, [], 2, ⟨by rw [f1]; exact htk, ?_, by rw [hw]; show 0 + rsv 2 + 1 ≤ 1 + rsv 2; omega⟩⟩
   rw [f1, List.append_nil]
   have hq : zas c x.votes = false := by cases hh : zas c x.votes with | false => rfl | true => exact absurd hh hq
   exact zk9 hk0 h f2 ⟨fun e => by omega, fun _ => ⟨xR, xH, xC, v1 k0 hk0 a4, hq⟩, fun e => by omega⟩ (fun _ => v1) (fun e => by omega) (fun e => by omega) (fun _ _ => v2) (fun e => by omega)
 ·have h3 : ph = 3 := by omega
  obtain ⟨a1, a2, _⟩ := h.lk.k3 h3
  have he : y.mg.term = (s.at k0).hard.term := by rw [a2]; exact m2
  refine took_idle hk0 h (.inr hk) (fun e => by omega) (fun _ => h3) ?_
  cases hye : y.yes with
  | true =>
   have htk : TK (s.at k0) y.mg (k4R (tkX (s.at k0) y.mg) y.mg) (k4O (tkX (s.at k0) y.mg) y.mg) 0 := .k4 hk hye (by omega)
   rw [zea he] at htk
   unfold k4R k4O at htk
   rw [if_neg (by rw [a1]; decide), if_neg (by rw [a1]; decide)] at htk
   exact htk
  | false =>
   have htk : TK (s.at k0) y.mg (tkX (s.at k0) y.mg) [] 0 := .no (.inr hk) hye (by omega)
   rw [zea he] at htk
   exact htk
theorem took_6 {c : Conf} {k0 ph : Nat} (hk0 : k0 < 7) {n : Nat} {s : Svn} {y : My} {ms : List My} (hp : Ply n s (y :: ms)) (h : CP c k0 ph s (y :: ms)) (hk : y.kind = 6) : ∃ R ys ph', Took c k0 ph s y ms R ys ph' := by
 have hy := h.my y (List.mem_cons_self ..)
 obtain ⟨f1, f2, f3, f4, f5⟩ := for_up hy (.inr (.inr hk))
 have hw := wM_up (y := y) (.inr (.inr hk))
 obtain ⟨m1, m2, m3, m4⟩ := hy.m6 hk
 subst m1
 obtain ⟨a1, a2, a3, a4, a5, a6⟩ := h.lk.k3 rfl
 have he : y.mg.term = (s.at k0).hard.term := by rw [a2]; exact m2
 have htk : TK (s.at k0) y.mg (zcl (tkX (s.at k0) y.mg) y.mg) [] 0 := .lrn hk (by omega)
 rw [zea he] at htk
 unfold zcl at htk
 rw [if_pos a1] at htk
 have eM : ∀ i, i < 7 → (lrnMt (s.at k0) y.mg).at i = if i = y.frm.toNat then 1 else (s.at k0).mtch.at i := fun i hi => by
  show ((s.at k0).mtch.put y.frm.toNat (nxM ((s.at k0).mtch.at y.frm.toNat) y.yes (lrnI (s.at k0) y.mg))).at i = _
  rw [zk8 _ _ f3 hi]
  have eI : lrnI (s.at k0) y.mg = 1 := by
   show (if lastI (s.at k0).hard < y.index then lastI (s.at k0).hard else y.index) = 1
   rw [a2, hdC1_lastI, m3]; rfl
  rw [eI, m4]
  unfold nxM
  rw [if_pos rfl]
  rcases a5 y.frm.toNat f3 with e | e <;> rw [e] <;> rfl
 have eC : zcu (s.at k0).hard (s.at k0).commit (lrnMt (s.at k0) y.mg) = if zas c (haveB (lrnMt (s.at k0) y.mg) 1 7) = true then 1 else 0 := by
  rw [a2, a6]
  by_cases hq : zas c (haveB (s.at k0).mtch 1 7) = true
  ·have hq2 : zas c (haveB (lrnMt (s.at k0) y.mg) 1 7) = true := zh6 (fun i hi _ ht => by
     have := zky _ 1 i 7 (Nat.le_refl _) ht
     refine zkv _ 1 i 7 (Nat.le_refl _) hi ?_
     rw [eM i hi]
     split
     ·exact Int.le_refl _
     ·exact this) hq
   rw [if_pos hq, if_pos hq2, commit_C1]
  ·rw [if_neg hq, commit_C0]
 refine ⟨_, [], 3, ⟨by rw [f1]; exact htk, ?_, by rw [hw]; show 0 + rsv 3 + 1 ≤ 1 + rsv 3; omega⟩⟩
 rw [f1, List.append_nil]
 refine zk9 hk0 h f2 ⟨fun e => by omega, fun e => by omega, fun _ => ⟨a1, a2, fun v hv => ?_, ?_, fun v hv => ?_, eC⟩⟩ (fun e => absurd rfl e) (fun _ w hw1 hw2 => ?_) (fun e => by omega) (fun e => by omega) (fun _ _ => ?_)
 ·show ((s.at k0).silent.put y.frm.toNat 0).at v = 0
  rw [zk8 _ _ f3 hv]
  split
  ·rfl
  ·exact a3 v hv
 ·show (lrnMt (s.at k0) y.mg).at k0 = 1
  rw [eM k0 hk0]
  split
  ·rfl
  ·exact a4
 ·show (lrnMt (s.at k0) y.mg).at v = 0 ∨ (lrnMt (s.at k0) y.mg).at v = 1
  rw [eM v hv]
  split
  ·exact .inr rfl
  ·exact a5 v hv
 ·show (lrnMt (s.at k0) y.mg).at w = 1
  rw [eM w hw1]
  split
  ·rfl
  ·exact hw2
 ·show (lrnMt (s.at k0) y.mg).at y.frm.toNat = 1
  rw [eM _ f3, if_pos rfl]
theorem grow_C {c : Conf} {vo : Int} {L : List Ent} (hL : L = [] ∨ L = [et 1]) (hh : hardB (hdC c 1 vo L) = true) (kd fr to rd : Int) (ye : Bool) (cf : Conf) (sn : List Int) (inn : List (List PV)) :
    growE (hdC c 1 vo L) 0 ⟨kd, fr, to, 1, 0, 0, 0, rd, ye, [et 1], cf, sn, inn⟩ = 0 ∧ growO (hdC c 1 vo L) 0 ⟨kd, fr, to, 1, 0, 0, 0, rd, ye, [et 1], cf, sn, inn⟩ = ⟨hdC c 1 vo [et 1], 0, true, 1⟩ := by
 have hrow : rowB [et 1] 0 1 = true := by
  show ((decide (max (0 : Int) 1 ≤ 1 ∧ (1 : Int) ≤ 1) && zcy (et 1)) && true) = true
  rw [entryB_et]; rfl
 refine ⟨?_, ?_⟩
 ·unfold growE
  rw [if_pos hh]
  have hg : zef (hdC c 1 vo L) 0 ⟨kd, fr, to, 1, 0, 0, 0, rd, ye, [et 1], cf, sn, inn⟩ := by
   refine ⟨⟨by show (0 : Int) ≤ 0; decide, ?_⟩, ⟨by show (0 : Int) ≤ 0; decide, by show (0 : Int) ≤ 1099511627776; decide⟩, by show (0 : Int) ≤ 0; decide, by show (0 : Int) ≤ 0; decide, by show (([et 1] : List Ent).length : Int) ≤ 8; decide⟩
   rcases hL with rfl | rfl
   ·show (0 : Int) ≤ 0; decide
   ·show (0 : Int) ≤ 1; decide
  rw [if_pos hg]
  rw [if_pos (show fits (hdC c 1 vo L) (gP (hdC c 1 vo L) ⟨kd, fr, to, 1, 0, 0, 0, rd, ye, [et 1], cf, sn, inn⟩) (gT (hdC c 1 vo L) ⟨kd, fr, to, 1, 0, 0, 0, rd, ye, [et 1], cf, sn, inn⟩) = true from rfl)]
  rw [if_neg (show ¬ gBrk (hdC c 1 vo L) 0 (gP (hdC c 1 vo L) ⟨kd, fr, to, 1, 0, 0, 0, rd, ye, [et 1], cf, sn, inn⟩) (gL (hdC c 1 vo L) ⟨kd, fr, to, 1, 0, 0, 0, rd, ye, [et 1], cf, sn, inn⟩) = true from by show ¬ false = true; decide)]
  show putHE (hdC c 1 vo L) 0 [et 1] = 0
  unfold putHE
  rw [if_pos hh, if_pos]
  refine ⟨⟨by show (0 : Int) ≤ 0; decide, ?_⟩, hrow⟩
  rcases hL with rfl | rfl
  ·show (0 : Int) ≤ 0; decide
  ·show (0 : Int) ≤ 1; decide
 ·rcases hL with rfl | rfl <;> rfl
theorem took_5 {c : Conf} {k0 ph : Nat} (hk0 : k0 < 7) {n : Nat} {s : Svn} {y : My} {ms : List My} (hp : Ply n s (y :: ms)) (h : CP c k0 ph s (y :: ms)) (hk : y.kind = 5) (hM : RightM (s.at y.to.toNat) y.mg) : ∃ R ys ph', Took c k0 ph s y ms R ys ph' := by
 have hy := h.my y (List.mem_cons_self ..)
 obtain ⟨v, F⟩ := for_dn hy (.inr (.inr hk))
 have hid : (s.at v).id = v := (hp.rp v F.v7).id
 have hv7 := F.v7
 have hvk := F.vk
 obtain ⟨m1, m2, m3, m4, m5⟩ := hy.m5 hk
 subst m1
 have ho := h.oth v F.v7 F.vk
 have htm : y.mg.term = 1 := m2
 obtain ⟨x1, x2, vo, L, x3, x4, x5, x6⟩ := oth_x ho htm
 have htk : TK (s.at v) y.mg (appR (tkX (s.at v) y.mg) y.mg) (appO (tkX (s.at v) y.mg) y.mg) (appE (tkX (s.at v) y.mg) y.mg) := .app hk (not_lt_1 ho htm)
 have xid : (tkX (s.at v) y.mg).id = v := (tkx_id ..).trans hid
 rw [F.nat] at hM
 have xh := (tkx_rp (hp.rp v F.v7) hM).rgt.hard
 have hw : wM y = 2 := if_pos (.inr (.inr hk))
 generalize tkX (s.at v) y.mg = x at *
 rw [x3] at xh
 have em : y.mg = ⟨5, y.frm, y.to, 1, 0, 0, 0, y.round, y.yes, [et 1], y.cf, [], []⟩ := by
  show (⟨y.kind, y.frm, y.to, y.term, y.index, y.logT, y.commit, y.round, y.yes, y.bd.ents, y.cf, y.bd.snp, []⟩ : Mg) = _
  rw [hk, m2, m3, m4, m5, hy.lt]
 obtain ⟨g1, g2⟩ := grow_C x5 xh 5 y.frm y.to y.round y.yes y.cf [] []
 rw [← em] at g1 g2
 have h3 : ¬ x.role = 3 := by rw [x1]; decide
 have eE : appE x y.mg = 0 := by
  unfold appE
  rw [if_neg h3, x3, x2]; exact g1
 have eG : growE x.hard x.commit y.mg = 0 := by rw [x3, x2]; exact g1
 have eO : growO x.hard x.commit y.mg = ⟨hdC c 1 vo [et 1], 0, true, 1⟩ := by rw [x3, x2]; exact g2
 rw [eE] at htk
 unfold appR appO at htk
 rw [if_neg h3, if_neg h3, if_pos eG, if_pos eG, eO] at htk
 have eH : (folR (setH x (hdC c 1 vo [et 1]) 0) y.mg).hard = hdC c 1 vo [et 1] := zeb (setH x (hdC c 1 vo [et 1]) 0) y.mg.frm
 refine ⟨_, [⟨6, (folR (setH x (hdC c 1 vo [et 1]) 0) y.mg).id, y.frm, (folR (setH x (hdC c 1 vo [et 1]) 0) y.mg).hard.term, 1, 0, 0, y.round, true, cz, .no⟩], 3, ⟨by rw [F.nat]; exact htk, ?_, by rw [hw]; show 1 + 0 + rsv 3 + 1 ≤ 2 + rsv 3; omega⟩⟩
 rw [F.nat]
 have hO : Oth c k0 3 (folR (setH x (hdC c 1 vo [et 1]) 0) y.mg) := ⟨rfl, rfl, ⟨1, vo, [et 1], eH, .inr ⟨rfl, x4, .inr rfl⟩⟩, fun e => by omega, fun e => by omega⟩
 exact zgi hk0 h hv7 hvk F.to hO (mc_up (.inr (.inr rfl)) (by show 0 ≤ x.id ∧ x.id < 7; omega) F.frm hk0 (by show x.id ≠ k0; omega) hy.rnd (by decide) (fun e => absurd e (by decide)) (fun e => absurd e (by decide)) (fun _ => ⟨rfl, by rw [eH], rfl, rfl⟩)) (fun e => by omega) (fun e => by omega) (fun _ _ => ⟨rfl, xid⟩)
theorem zju {c : Conf} {k0 ph : Nat} {n : Nat} {s : Svn} {y : My} {ms : List My} (hp : Ply n s (y :: ms)) (h : CP c k0 ph s (y :: ms)) : zid (s.at y.to.toNat) y.mg = true := by
 have hy := h.my y (List.mem_cons_self ..)
 have hto := hy.to
 have hid := (hp.rp y.to.toNat (by omega)).id
 have hne := hy.ne
 have hf := hy.frm
 have hkd := hy.kd
 have hterm : 0 ≤ y.term ∧ y.term ≤ 1 := by
  rcases (by omega : y.kind = 1 ∨ y.kind = 2 ∨ y.kind = 3 ∨ y.kind = 4 ∨ y.kind = 5 ∨ y.kind = 6) with e | e | e | e | e | e
  ·have := hy.m1 (.inl e); omega
  ·have := hy.m2 e; omega
  ·have := hy.m1 (.inr e); omega
  ·have := hy.m4 e; omega
  ·have := hy.m5 e; omega
  ·have := hy.m6 e; omega
 have hix := hy.ix
 have hlt := hy.lt
 have hrd := hy.rnd
 have hin : ∀ (b x : Int), 0 ≤ x → x ≤ b → inR b x = true := fun b x h1 h2 => by
  unfold inR
  simp only [Bool.and_eq_true, decide_eq_true_eq]
  omega
 unfold zid
 simp only [Bool.and_eq_true, decide_eq_true_eq]
 refine ⟨hin 6 _ hf.1 (by show y.frm ≤ 6; omega), by show ¬ y.frm = _; omega, by show y.to = _; omega, hkd.1, by show y.kind ≤ 8; omega, ⟨hin _ _ hterm.1 (by show y.term ≤ 1099511627776; omega), hin _ _ (by show 0 ≤ y.logT; omega) (by show y.logT ≤ 1099511627776; omega)⟩, hin _ _ hix.1 (by show y.index ≤ 1099511627776; omega), hin _ _ hrd.1 hrd.2⟩
theorem took {c : Conf} {k0 ph : Nat} (h2 : 2 ≤ count (zbb c)) (hk0 : k0 < 7) {n : Nat} (hn : n ≤ 199) {s : Svn} {y : My} {ms : List My} (hp : Ply n s (y :: ms)) (h : CP c k0 ph s (y :: ms)) : ∃ R ys ph', Took c k0 ph s y ms R ys ph' := by
 have hy := h.my y (List.mem_cons_self ..)
 have hkd := hy.kd
 rcases (by omega : y.kind = 1 ∨ y.kind = 2 ∨ y.kind = 3 ∨ y.kind = 4 ∨ y.kind = 5 ∨ y.kind = 6) with e | e | e | e | e | e
 ·exact took_1 hk0 hp h e
 ·exact took_2 h2 hk0 hp h e
 ·exact took_3 hk0 hp h e
 ·exact took_4 h2 hk0 hn hp h e
 ·exact took_5 hk0 hp h e (rightM_of (zju hp h))
 ·exact took_6 hk0 hp h e
theorem cp_end {c : Conf} (hc : Cok c) {k0 ph : Nat} (hk0 : k0 < 7) {s : Svn} (h : CP c k0 ph s []) : (s.at k0).role = 3 ∧ (s.at k0).hard = hdC c 1 k0 [et 1] ∧ (∀ v, v < 7 → (s.at k0).silent.at v = 0) ∧ (s.at k0).commit = 1 := by
 have p3 := h.p3
 have hno : ∀ {P : My → Prop}, ¬ ∃ y ∈ ([] : List My), P y := fun ⟨y, hy, _⟩ => absurd hy List.not_mem_nil
 rcases (by omega : ph = 1 ∨ ph = 2 ∨ ph = 3) with e | e | e
 ·obtain ⟨_, _, _, a4, a5⟩ := h.lk.k1 e
  have : zas c (s.at k0).votes = true := zfm hc fun i hi hv => by
   by_cases hik : i = k0
   ·rw [hik]; exact a4
   ·exact (((h.pg i hi hik hv).1 e).resolve_right hno)
  rw [this] at a5; cases a5
 ·obtain ⟨_, _, _, a4, a5⟩ := h.lk.k2 e
  have : zas c (s.at k0).votes = true := zfm hc fun i hi hv => by
   by_cases hik : i = k0
   ·rw [hik]; exact a4
   ·exact (((h.pg i hi hik hv).2.1 e).resolve_right hno)
  rw [this] at a5; cases a5
 ·obtain ⟨a1, a2, a3, a4, a5, a6⟩ := h.lk.k3 e
  have : zas c (haveB (s.at k0).mtch 1 7) = true := zfm hc fun i hi hv => by
   refine zkv _ 1 i 7 (Nat.le_refl _) hi ?_
   by_cases hik : i = k0
   ·rw [hik, a4]; exact Int.le_refl _
   ·rw [((h.pg i hi hik hv).2.2 e).resolve_right hno]; exact Int.le_refl _
  rw [this] at a6
  exact ⟨a1, a2, a3, a6⟩
end Go.Proofs
