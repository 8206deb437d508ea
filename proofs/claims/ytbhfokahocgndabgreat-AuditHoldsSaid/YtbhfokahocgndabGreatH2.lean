import Derived.Test.YtbhfokahocgndabGreatC1
import Derived.Test.YtbhfokahocgndabGreatC54
import Derived.Test.YtbhfokahocgndabGreatC24
import Derived.Test.YtbhfokahocgndabGreatC13
import Derived.Test.YtbhfokahocgndabGreatPvV4
import Derived.Test.YtbhfokahocgndabGreatY3
/- Contracts of functions: whether a replica is right. -/
set_option linter.unusedSimpArgs false
set_option linter.unusedVariables false
namespace Go.Proofs
open Go.Pv
set_option maxRecDepth 100000
def inR (g x : Int) : Bool := decide (0 ≤ x ∧ x ≤ g)
def arrR (g : Int) (a : Arr) : Bool := inR g a.a0 && (inR g a.a1 && (inR g a.a2 && (inR g a.a3 && (inR g a.a4 && (inR g a.a5 && inR g a.a6)))))
theorem zch {g x : Int} (h : 0 ≤ x ∧ x ≤ g) : inR g x = true := decide_eq_true h
noncomputable def rdB (commit : Int) (x : Rd) : Bool := decide (callR x.call = 0) && (inR commit x.index && (inR far x.round && inR 127 x.acks))
noncomputable def rdsB (r : Rft) : Bool := if 4 < r.reads.length then false else if 0 < r.reads.length ∧ r.role ≠ 3 then false else r.reads.all (rdB r.commit)
noncomputable def ze7 (r : Rft) : Bool := hardB r.hard && (inR 6 r.id && (decide (r.hard.base ≤ r.commit) && (decide (r.commit ≤ lastI r.hard) && (inR 3 r.role && (decide (-1 ≤ r.lead) && (decide (r.lead < 7) && (inR 100 r.wait && ((inR far r.quiet && inR far r.round) && (inR 127 r.votes && (arrR far r.next && (arrR (lastI r.hard) r.mtch && (arrR far r.silent && (rdsB r && (if r.role = 3 then decide (r.lead = r.id) else true))))))))))))))
abbrev repV (x : Rft) (sn lg rd out : PV) : List PV := [iv x.id, iv x.hard.term, iv x.hard.vote, iv x.hard.base, iv x.hard.baseTerm, iv x.hard.baseConf.full, iv x.hard.baseConf.wit, iv x.hard.baseConf.learn, iv x.hard.baseConf.lwit, sn, lg, iv x.commit, iv x.role, iv x.lead, iv x.wait, iv x.quiet, iv x.votes, iv x.round, iv x.next.a0, iv x.next.a1, iv x.next.a2, iv x.next.a3, iv x.next.a4, iv x.next.a5, iv x.next.a6, iv x.mtch.a0, iv x.mtch.a1, iv x.mtch.a2, iv x.mtch.a3, iv x.mtch.a4, iv x.mtch.a5, iv x.mtch.a6, iv x.silent.a0, iv x.silent.a1, iv x.silent.a2, iv x.silent.a3, iv x.silent.a4, iv x.silent.a5, iv x.silent.a6, rd, out]
abbrev snW (x : Rft) (k : Nat) : PV := .ow k 0 (x.hard.snap.map encB).length
abbrev lgW (x : Rft) (k : Nat) : PV := .ow k 0 (x.hard.log.map Ent.enc).length
abbrev rdW (x : Rft) (k : Nat) : PV := .ow k 0 (x.reads.map Rd.enc).length
abbrev repI (x : Rft) (out : List (List PV)) : List PV := repV x (snW x 1000000) (lgW x 1000001) (rdW x 1000002) (.ow 1000003 0 out.length)
abbrev snO (x : Rft) : Option (Bool × Nat × List (List PV)) := some (false, 1, x.hard.snap.map encB)
abbrev lgO (x : Rft) : Option (Bool × Nat × List (List PV)) := some (false, 16, x.hard.log.map Ent.enc)
abbrev rdO (x : Rft) : Option (Bool × Nat × List (List PV)) := some (false, 13, x.reads.map Rd.enc)
abbrev obI (x : Rft) (out : List (List PV)) : List (Nat × Option (Bool × Nat × List (List PV))) := [(1000000, snO x), (1000001, lgO x), (1000002, rdO x), (1000003, some (false, 16, out))]
theorem zql {h h' : Hrd} (e1 : h.base = h'.base) (e2 : h.baseConf = h'.baseConf) (e3 : h.log = h'.log) (u : Int) : force h u = force h' u := by
 have key : ∀ n, fwd h u n = fwd h' u n := by
  intro n
  induction n with
  | zero => unfold fwd; rw [e1, e2]
  | succ n ih =>
   unfold fwd
   rw [e3, ih]
   have ei : idx h n = idx h' n := by unfold idx; rw [e1]
   rw [ei]
 unfold force
 rw [e3, key]
theorem zsx {h h' : Hrd} (e1 : h.base = h'.base) (e3 : h.log = h'.log) : lastI h = lastI h' := by
 unfold lastI; rw [e1, e3]
theorem zip {id bits : Int} {i : Nat} (h : (i : Int) ≠ id) (ht : tb bits i = true) : othN id bits (i + 1) = othN id bits i ++ [(i : Int)] := by
 unfold othN
 rw [List.range_succ, List.filter_append, List.map_append, List.filter_cons, if_pos (by simp [h, ht])]; rfl
theorem zmy {id bits : Int} {i : Nat} (h : (i : Int) = id ∨ tb bits i = false) : othN id bits (i + 1) = othN id bits i := by
 unfold othN
 rw [List.range_succ, List.filter_append, List.map_append, List.filter_cons, if_neg (by rcases h with h | h <;> simp [h])]; simp
theorem zfz (id bits : Int) (i : Nat) : (othN id bits i).length ≤ i := by
 unfold othN
 rw [List.length_map]
 have := List.length_filter_le (fun k : Nat => decide ((k : Int) ≠ id) && tb bits k) (List.range i)
 rw [List.length_range] at this
 exact this
abbrev encI (n : Int) : List PV := [iv n]
abbrev msgV (k f t tm ix lt cm rd : Int) (y : Bool) (es : PV) (cf : Conf) (sn : PV) : List PV := [iv k, iv f, iv t, iv tm, iv ix, iv lt, iv cm, iv rd, bv y, es, iv cf.full, iv cf.wit, iv cf.learn, iv cf.lwit, sn, .nl]
abbrev askM (r : Rft) (kind term : Int) (i : Int) : List PV := msgV kind r.id i term (lastI r.hard) (lastT r.hard) 0 0 false .nl cz .nl
noncomputable def votL (r : Rft) : List Int := othN r.id (bor (zac r).full (zac r).wit) 7
end Go.Proofs
