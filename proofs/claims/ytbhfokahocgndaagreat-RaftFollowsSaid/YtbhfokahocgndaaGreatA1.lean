/- The program's types as plain structures, their cells; what comes in, by its type. Printed by a program of mine (types.py). -/
import Derived.Test.YtbhfokahocgndaaGreatPvO
import Derived.Test.YtbhfokahocgndaaGreatPvN
import Derived.Test.YtbhfokahocgndaaGreatProg
import Derived.KernelRfl
set_option linter.unusedSimpArgs false
set_option linter.unusedVariables false
namespace Go.Proofs
open Go.Pv
set_option maxRecDepth 100000

abbrev iv (n : Int) : PV := .sc (.int .i64 n)
abbrev bv (b : Bool) : PV := .sc (.bool b)
abbrev sv (s : ByteArray) : PV := .sc (.string s)
abbrev encB (n : Int) : List PV := [.sc (.int .u8 n)]
def isI (n : Int) : Prop := -9223372036854775808 ≤ n ∧ n < 9223372036854775808
def isB (n : Int) : Prop := 0 ≤ n ∧ n < 256

theorem mixed : Tryz.prog.follows .mixedOrders = true := by kernel_rfl
theorem laidOut : laidOutB Tryz.prog = true := by kernel_rfl

theorem isI_of {n : Int} (h : (Lit.int .i64 n).wf = true) : isI n := by
  simp [Lit.wf, IntKind.min, IntKind.max, IntKind.signed, IntKind.bits] at h
  unfold isI; omega
theorem isF_of {n : Nat} (h : (Lit.float .f64 n).wf = true) : n < 18446744073709551616 := by
  simp [Lit.wf] at h
  omega

theorem rows_map {α : Type} {f : α → List PV} {ok : α → Prop} : ∀ {rows : List (List PV)}, (∀ r ∈ rows, ∃ x, r = f x ∧ ok x) → ∃ xs : List α, rows = xs.map f ∧ ∀ x ∈ xs, ok x
  | [], _ => ⟨[], rfl, by simp⟩
  | r :: rows, h => by
    obtain ⟨x, rfl, hx⟩ := h r (by simp)
    obtain ⟨xs, rfl, hxs⟩ := rows_map (rows := rows) fun q hq => h q (by simp [hq])
    exact ⟨x :: xs, rfl, by intro y hy; rcases List.mem_cons.1 hy with rfl | hy; exact hx; exact hxs y hy⟩

theorem ty_i {ls : List PV} (h : Ty Tryz.prog 3 ls) : ∃ n : Int, ls = [iv n] ∧ isI n := by
  obtain ⟨n, e, w⟩ := ty_int (k := .i64) (by kernel_rfl) h
  exact ⟨n, e, isI_of w⟩
theorem ty_f {ls : List PV} (h : Ty Tryz.prog 32 ls) : ∃ n : Nat, ls = [.sc (.float .f64 n)] ∧ n < 18446744073709551616 := by
  obtain ⟨n, e, w⟩ := ty_float (k := .f64) (by kernel_rfl) h
  exact ⟨n, e, isF_of w⟩
theorem ty_s {ls : List PV} (h : Ty Tryz.prog 9 ls) : ∃ s : ByteArray, ls = [sv s] ∧ s.size ≤ maxLen := ty_string (by kernel_rfl) h
structure Conf where
  full : Int
  wit : Int
  learn : Int
  lwit : Int
deriving DecidableEq
abbrev Conf.enc (x : Conf) : List PV := [iv x.full, iv x.wit, iv x.learn, iv x.lwit]
def Conf.ok (x : Conf) : Prop := isI x.full ∧ isI x.wit ∧ isI x.learn ∧ isI x.lwit
theorem ty_Conf {ls : List PV} (h : Ty Tryz.prog 23 ls) : ∃ x : Conf, ls = x.enc ∧ x.ok := by
  obtain ⟨ps, rfl, h0⟩ := ty_struct [3, 3, 3, 3] (by kernel_rfl) (by kernel_rfl) h
  obtain ⟨p0, ps, rfl, h1, h0⟩ := tyParts_cons h0
  obtain ⟨p1, ps, rfl, h2, h0⟩ := tyParts_cons h0
  obtain ⟨p2, ps, rfl, h3, h0⟩ := tyParts_cons h0
  obtain ⟨p3, ps, rfl, h4, h0⟩ := tyParts_cons h0
  obtain rfl := tyParts_nil h0
  obtain ⟨x0, rfl, w0⟩ := ty_i h1
  obtain ⟨x1, rfl, w1⟩ := ty_i h2
  obtain ⟨x2, rfl, w2⟩ := ty_i h3
  obtain ⟨x3, rfl, w3⟩ := ty_i h4
  exact ⟨⟨x0, x1, x2, x3⟩, rfl, w0, w1, w2, w3⟩
theorem arg_Conf {p : PV} (h : ArgOf Tryz.prog 23 p) : ∃ x : Conf, p = .ag x.enc ∧ x.ok := by
  obtain ⟨ls, rfl, h1⟩ := argOf_agg (by kernel_rfl) h
  obtain ⟨x, rfl, w⟩ := ty_Conf h1
  exact ⟨x, rfl, w⟩

structure VVal where
  kind : Int
  num : Nat
  text : ByteArray
deriving DecidableEq
abbrev VVal.enc (x : VVal) : List PV := [iv x.kind, .sc (.float .f64 x.num), sv x.text]
def VVal.ok (x : VVal) : Prop := isI x.kind ∧ x.num < 18446744073709551616 ∧ x.text.size ≤ maxLen
theorem ty_VVal {ls : List PV} (h : Ty Tryz.prog 34 ls) : ∃ x : VVal, ls = x.enc ∧ x.ok := by
  obtain ⟨ps, rfl, h0⟩ := ty_struct [3, 32, 9] (by kernel_rfl) (by kernel_rfl) h
  obtain ⟨p0, ps, rfl, h1, h0⟩ := tyParts_cons h0
  obtain ⟨p1, ps, rfl, h2, h0⟩ := tyParts_cons h0
  obtain ⟨p2, ps, rfl, h3, h0⟩ := tyParts_cons h0
  obtain rfl := tyParts_nil h0
  obtain ⟨x0, rfl, w0⟩ := ty_i h1
  obtain ⟨x1, rfl, w1⟩ := ty_f h2
  obtain ⟨x2, rfl, w2⟩ := ty_s h3
  exact ⟨⟨x0, x1, x2⟩, rfl, w0, w1, w2⟩
structure VCmd where
  kind : Int
  key : ByteArray
  old : VVal
  val : VVal
deriving DecidableEq
abbrev VCmd.enc (x : VCmd) : List PV := [iv x.kind, sv x.key, iv x.old.kind, .sc (.float .f64 x.old.num), sv x.old.text, iv x.val.kind, .sc (.float .f64 x.val.num), sv x.val.text]
def VCmd.ok (x : VCmd) : Prop := isI x.kind ∧ x.key.size ≤ maxLen ∧ x.old.ok ∧ x.val.ok
theorem ty_VCmd {ls : List PV} (h : Ty Tryz.prog 36 ls) : ∃ x : VCmd, ls = x.enc ∧ x.ok := by
  obtain ⟨ps, rfl, h0⟩ := ty_struct [3, 9, 34, 34] (by kernel_rfl) (by kernel_rfl) h
  obtain ⟨p0, ps, rfl, h1, h0⟩ := tyParts_cons h0
  obtain ⟨p1, ps, rfl, h2, h0⟩ := tyParts_cons h0
  obtain ⟨p2, ps, rfl, h3, h0⟩ := tyParts_cons h0
  obtain ⟨p3, ps, rfl, h4, h0⟩ := tyParts_cons h0
  obtain rfl := tyParts_nil h0
  obtain ⟨x0, rfl, w0⟩ := ty_i h1
  obtain ⟨x1, rfl, w1⟩ := ty_s h2
  obtain ⟨x2, rfl, w2⟩ := ty_VVal h3
  obtain ⟨x3, rfl, w3⟩ := ty_VVal h4
  exact ⟨⟨x0, x1, x2, x3⟩, rfl, w0, w1, w2, w3⟩
structure VCall where
  client : Int
  seq : Int
  cmd : VCmd
deriving DecidableEq
abbrev VCall.enc (x : VCall) : List PV := [iv x.client, iv x.seq, iv x.cmd.kind, sv x.cmd.key, iv x.cmd.old.kind, .sc (.float .f64 x.cmd.old.num), sv x.cmd.old.text, iv x.cmd.val.kind, .sc (.float .f64 x.cmd.val.num), sv x.cmd.val.text]
def VCall.ok (x : VCall) : Prop := isI x.client ∧ isI x.seq ∧ x.cmd.ok
theorem ty_VCall {ls : List PV} (h : Ty Tryz.prog 38 ls) : ∃ x : VCall, ls = x.enc ∧ x.ok := by
  obtain ⟨ps, rfl, h0⟩ := ty_struct [3, 3, 36] (by kernel_rfl) (by kernel_rfl) h
  obtain ⟨p0, ps, rfl, h1, h0⟩ := tyParts_cons h0
  obtain ⟨p1, ps, rfl, h2, h0⟩ := tyParts_cons h0
  obtain ⟨p2, ps, rfl, h3, h0⟩ := tyParts_cons h0
  obtain rfl := tyParts_nil h0
  obtain ⟨x0, rfl, w0⟩ := ty_i h1
  obtain ⟨x1, rfl, w1⟩ := ty_i h2
  obtain ⟨x2, rfl, w2⟩ := ty_VCmd h3
  exact ⟨⟨x0, x1, x2⟩, rfl, w0, w1, w2⟩
structure Ent where
  term : Int
  kind : Int
  call : VCall
  conf : Conf
deriving DecidableEq
abbrev Ent.enc (x : Ent) : List PV := [iv x.term, iv x.kind, iv x.call.client, iv x.call.seq, iv x.call.cmd.kind, sv x.call.cmd.key, iv x.call.cmd.old.kind, .sc (.float .f64 x.call.cmd.old.num), sv x.call.cmd.old.text, iv x.call.cmd.val.kind, .sc (.float .f64 x.call.cmd.val.num), sv x.call.cmd.val.text, iv x.conf.full, iv x.conf.wit, iv x.conf.learn, iv x.conf.lwit]
def Ent.ok (x : Ent) : Prop := isI x.term ∧ isI x.kind ∧ x.call.ok ∧ x.conf.ok
structure Hrd where
  term : Int
  vote : Int
  base : Int
  baseTerm : Int
  baseConf : Conf
  snap : List Int
  log : List Ent
deriving DecidableEq
abbrev Hrd.enc (x : Hrd) : List PV := [iv x.term, iv x.vote, iv x.base, iv x.baseTerm, iv x.baseConf.full, iv x.baseConf.wit, iv x.baseConf.learn, iv x.baseConf.lwit, .sl 1 (x.snap.map encB), .sl 16 (x.log.map Ent.enc)]
def Hrd.ok (x : Hrd) : Prop := isI x.term ∧ isI x.vote ∧ isI x.base ∧ isI x.baseTerm ∧ x.baseConf.ok ∧ (x.snap.length ≤ maxLen ∧ ∀ b ∈ x.snap, isB b) ∧ (x.log.length ≤ maxLen ∧ ∀ y ∈ x.log, Ent.ok y)
structure Rd where
  call : VCall
  index : Int
  round : Int
  acks : Int
deriving DecidableEq
abbrev Rd.enc (x : Rd) : List PV := [iv x.call.client, iv x.call.seq, iv x.call.cmd.kind, sv x.call.cmd.key, iv x.call.cmd.old.kind, .sc (.float .f64 x.call.cmd.old.num), sv x.call.cmd.old.text, iv x.call.cmd.val.kind, .sc (.float .f64 x.call.cmd.val.num), sv x.call.cmd.val.text, iv x.index, iv x.round, iv x.acks]
def Rd.ok (x : Rd) : Prop := x.call.ok ∧ isI x.index ∧ isI x.round ∧ isI x.acks
structure Arr where
  a0 : Int
  a1 : Int
  a2 : Int
  a3 : Int
  a4 : Int
  a5 : Int
  a6 : Int
deriving DecidableEq
abbrev Arr.enc (x : Arr) : List PV := [iv x.a0, iv x.a1, iv x.a2, iv x.a3, iv x.a4, iv x.a5, iv x.a6]
def Arr.ok (x : Arr) : Prop := isI x.a0 ∧ isI x.a1 ∧ isI x.a2 ∧ isI x.a3 ∧ isI x.a4 ∧ isI x.a5 ∧ isI x.a6
structure Rft where
  id : Int
  hard : Hrd
  commit : Int
  role : Int
  lead : Int
  wait : Int
  quiet : Int
  votes : Int
  round : Int
  next : Arr
  mtch : Arr
  silent : Arr
  reads : List Rd
deriving DecidableEq
abbrev Rft.enc (x : Rft) : List PV := [iv x.id, iv x.hard.term, iv x.hard.vote, iv x.hard.base, iv x.hard.baseTerm, iv x.hard.baseConf.full, iv x.hard.baseConf.wit, iv x.hard.baseConf.learn, iv x.hard.baseConf.lwit, .sl 1 (x.hard.snap.map encB), .sl 16 (x.hard.log.map Ent.enc), iv x.commit, iv x.role, iv x.lead, iv x.wait, iv x.quiet, iv x.votes, iv x.round, iv x.next.a0, iv x.next.a1, iv x.next.a2, iv x.next.a3, iv x.next.a4, iv x.next.a5, iv x.next.a6, iv x.mtch.a0, iv x.mtch.a1, iv x.mtch.a2, iv x.mtch.a3, iv x.mtch.a4, iv x.mtch.a5, iv x.mtch.a6, iv x.silent.a0, iv x.silent.a1, iv x.silent.a2, iv x.silent.a3, iv x.silent.a4, iv x.silent.a5, iv x.silent.a6, .sl 13 (x.reads.map Rd.enc)]
def Rft.ok (x : Rft) : Prop := isI x.id ∧ x.hard.ok ∧ isI x.commit ∧ isI x.role ∧ isI x.lead ∧ isI x.wait ∧ isI x.quiet ∧ isI x.votes ∧ isI x.round ∧ x.next.ok ∧ x.mtch.ok ∧ x.silent.ok ∧ (x.reads.length ≤ maxLen ∧ ∀ y ∈ x.reads, Rd.ok y)
structure Mg where
  kind : Int
  frm : Int
  to : Int
  term : Int
  index : Int
  logTerm : Int
  commit : Int
  round : Int
  yes : Bool
  entries : List Ent
  conf : Conf
  snap : List Int
  inner : List (List PV)
abbrev Mg.enc (x : Mg) : List PV := [iv x.kind, iv x.frm, iv x.to, iv x.term, iv x.index, iv x.logTerm, iv x.commit, iv x.round, bv x.yes, .sl 16 (x.entries.map Ent.enc), iv x.conf.full, iv x.conf.wit, iv x.conf.learn, iv x.conf.lwit, .sl 1 (x.snap.map encB), .sl 16 x.inner]
def Mg.ok (x : Mg) : Prop := isI x.kind ∧ isI x.frm ∧ isI x.to ∧ isI x.term ∧ isI x.index ∧ isI x.logTerm ∧ isI x.commit ∧ isI x.round ∧ (x.entries.length ≤ maxLen ∧ ∀ y ∈ x.entries, Ent.ok y) ∧ x.conf.ok ∧ (x.snap.length ≤ maxLen ∧ ∀ b ∈ x.snap, isB b) ∧ (x.inner.length ≤ maxLen ∧ ∀ r ∈ x.inner, Ty Tryz.prog 70 r)
theorem arg_i {p : PV} (h : ArgOf Tryz.prog 3 p) : ∃ n : Int, p = iv n ∧ isI n := by
  obtain ⟨n, e, w⟩ := ty_i (argOf_one (by kernel_rfl) h)
  cases e
  exact ⟨n, rfl, w⟩
end Go.Proofs
