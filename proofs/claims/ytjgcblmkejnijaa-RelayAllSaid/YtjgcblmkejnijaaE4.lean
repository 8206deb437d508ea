/- Messages that came in, however deep; relay's twins of them. -/
import Derived.Test.YtjgcblmkejnijaaPvNs
import Derived.Test.YtjgcblmkejnijaaC13
import Derived.Test.YtjgcblmkejnijaaC24
import Derived.Test.YtjgcblmkejnijaaPvQ2
import Derived.Test.YtjgcblmkejnijaaC55
import Derived.Test.YtjgcblmkejnijaaD6
set_option linter.unusedSimpArgs false
set_option linter.unusedVariables false
namespace Go.Proofs
open Go.Pv
set_option maxRecDepth 100000

/-- What a slice of a message's takes is no more than came in. -/
structure MgSz (x : Mg) : Prop where
  es : x.entries.length * 152 ≤ 140737488351232
  sn : x.snap.length ≤ 140737488351232
  inn : x.inner.length * 176 ≤ 140737488351232

theorem bytesE : Try.prog.bytesOf 135 = 152 := by kernel_rfl
theorem bytesM : Try.prog.bytesOf 58 = 176 := by kernel_rfl
theorem bytesB : Try.prog.bytesOf 5 = 1 := by kernel_rfl
theorem typedS_Mg {n : Nat} {ls : List PV} (h : TypedS Try.prog (n + 1) 58 ls) : ∃ x : Mg, ls = x.enc ∧ x.ok ∧ MgSz x ∧ ∀ r ∈ x.inner, ∃ k, k < n ∧ TypedS Try.prog k 58 r := by
  obtain ⟨ps, rfl, h0⟩ := typedS_struct [3, 3, 3, 3, 3, 3, 3, 3, 4, 53, 55, 56, 47] (by kernel_rfl) (by kernel_rfl) h
  obtain ⟨p0, ps, rfl, h1, h0⟩ := tyPartsS_cons h0
  obtain ⟨p1, ps, rfl, h2, h0⟩ := tyPartsS_cons h0
  obtain ⟨p2, ps, rfl, h3, h0⟩ := tyPartsS_cons h0
  obtain ⟨p3, ps, rfl, h4, h0⟩ := tyPartsS_cons h0
  obtain ⟨p4, ps, rfl, h5, h0⟩ := tyPartsS_cons h0
  obtain ⟨p5, ps, rfl, h6, h0⟩ := tyPartsS_cons h0
  obtain ⟨p6, ps, rfl, h7, h0⟩ := tyPartsS_cons h0
  obtain ⟨p7, ps, rfl, h8, h0⟩ := tyPartsS_cons h0
  obtain ⟨p8, ps, rfl, h9, h0⟩ := tyPartsS_cons h0
  obtain ⟨p9, ps, rfl, h10, h0⟩ := tyPartsS_cons h0
  obtain ⟨p10, ps, rfl, h11, h0⟩ := tyPartsS_cons h0
  obtain ⟨p11, ps, rfl, h12, h0⟩ := tyPartsS_cons h0
  obtain ⟨p12, ps, rfl, h13, h0⟩ := tyPartsS_cons h0
  obtain rfl := tyPartsS_nil h0
  obtain ⟨x0, rfl, w0⟩ := ty_i ⟨n, h1.typed⟩
  obtain ⟨x1, rfl, w1⟩ := ty_i ⟨n, h2.typed⟩
  obtain ⟨x2, rfl, w2⟩ := ty_i ⟨n, h3.typed⟩
  obtain ⟨x3, rfl, w3⟩ := ty_i ⟨n, h4.typed⟩
  obtain ⟨x4, rfl, w4⟩ := ty_i ⟨n, h5.typed⟩
  obtain ⟨x5, rfl, w5⟩ := ty_i ⟨n, h6.typed⟩
  obtain ⟨x6, rfl, w6⟩ := ty_i ⟨n, h7.typed⟩
  obtain ⟨x7, rfl, w7⟩ := ty_i ⟨n, h8.typed⟩
  obtain ⟨x8, rfl⟩ := ty_b ⟨n, h9.typed⟩
  cases n with
  | zero => exact h1.elim
  | succ n =>
  obtain ⟨r9, e9, z9, f9⟩ := typedS_slice (e := 135) 16 (by kernel_rfl) (by kernel_rfl) (by decide) h10
  obtain ⟨r9', e9', l9, g9⟩ := ty_slice (e := 135) 16 (by kernel_rfl) (by kernel_rfl) (by decide) ⟨_, h10.typed⟩
  rw [e9] at e9'
  cases e9'
  obtain ⟨x9, rfl, k9⟩ := rows_map (f := Ent.enc) (ok := Ent.ok) fun r hr => ty_Ent (g9 r hr)
  obtain ⟨x10, rfl, w10⟩ := ty_Conf ⟨_, h11.typed⟩
  obtain ⟨r11, e11, z11, _⟩ := typedS_slice (e := 5) 1 (by kernel_rfl) (by kernel_rfl) (by decide) h12
  obtain ⟨x11, e11', w11⟩ := ty_bytes ⟨_, h12.typed⟩
  rw [e11'] at e11
  cases e11
  obtain ⟨r12, e12, z12, f12⟩ := typedS_slice (e := 58) 16 (by kernel_rfl) (by kernel_rfl) (by decide) h13
  obtain ⟨r12', e12', l12, g12⟩ := ty_slice (e := 58) 16 (by kernel_rfl) (by kernel_rfl) (by decide) ⟨_, h13.typed⟩
  rw [e12] at e12'
  cases e12'
  subst e9 e11' e12
  rw [bytesE] at z9
  rw [bytesB] at z11
  rw [bytesM] at z12
  refine ⟨⟨x0, x1, x2, x3, x4, x5, x6, x7, x8, x9, x10, x11, r12⟩, rfl, ⟨w0, w1, w2, w3, w4, w5, w6, w7, ⟨by simpa using l9, k9⟩, w10, w11, ⟨l12, g12⟩⟩, ⟨by simpa [reachBytes] using z9, by simpa [reachBytes] using z11, by simpa [reachBytes] using z12⟩, fun r hr => ⟨n, by omega, f12 r hr⟩⟩
/-- A message that came in. -/
def MgS (x : Mg) : Prop := ∃ n, TypedS Try.prog n 58 x.enc

theorem leMax {n : Nat} (h : n ≤ 140737488355328) : n ≤ maxLen := by
  have : maxLen = 9223372036854775807 := by decide
  omega
theorem c_CloneEntS (l : List Ent) (h : l.length * 152 ≤ 140737488351232) : Ctr Try.prog 105 [.sl 16 (l.map Ent.enc)] (.sl 16 (l.map Ent.enc)) [] := by
  have h2 : (l.map Ent.enc).length * 152 ≤ 140737488355328 := by rw [List.length_map]; omega
  have h3 : (l.map Ent.enc).length ≤ maxLen := by rw [List.length_map]; exact leMax (by omega)
  have k : Ctr Try.prog 105 [.sl 16 (l.map Ent.enc)] (.ow 0 0 (l.map Ent.enc).length) [(16, l.map Ent.enc)] := by
    refine spec_of_body mixed Try.func105 rfl (by kernel_rfl) (by kernel_rfl) ?_; conv => whnf
    refine ⟨fun e => ?_, ?_⟩ <;> conv => whnf
    · have : l = [] := by simpa using e
      subst this
      exact exit_nil 16
    · refine ⟨rfl, ?_⟩
      conv => whnf
      refine ⟨⟨⟨h2, h3⟩, rfl⟩, ?_⟩
      conv => whnf
      exact exit_own [(0, 112)] rfl ⟨rfl, True.intro⟩ (wkV_ow rfl rfl rfl)
  exact k.frz (wkV_fz (b := false) (List.Mem.head _) rfl)
theorem c_CloneBytS (l : List Int) (h : l.length ≤ 140737488351232) : Ctr Try.prog 106 [.sl 1 (l.map encB)] (.sl 1 (l.map encB)) [] := by
  have h2 : (l.map encB).length * 1 ≤ 140737488355328 := by rw [List.length_map]; omega
  have h3 : (l.map encB).length ≤ maxLen := by rw [List.length_map]; exact leMax (by omega)
  have k : Ctr Try.prog 106 [.sl 1 (l.map encB)] (.ow 0 0 (l.map encB).length) [(1, l.map encB)] := by
    refine spec_of_body mixed Try.func106 rfl (by kernel_rfl) (by kernel_rfl) ?_; conv => whnf
    refine ⟨fun e => ?_, ?_⟩ <;> conv => whnf
    · have : l = [] := by simpa using e
      subst this
      exact exit_nil 1
    · refine ⟨rfl, ?_⟩
      conv => whnf
      refine ⟨⟨⟨h2, h3⟩, rfl⟩, ?_⟩
      conv => whnf
      exact exit_own [(0, 112)] rfl ⟨rfl, True.intro⟩ (wkV_ow rfl rfl rfl)
  exact k.frz (wkV_fz (b := false) (List.Mem.head _) rfl)

/-- relay's twins: the same messages. -/
theorem c_twinsS (rows : List (List PV)) (h : rows.length * 176 ≤ 140737488351232) (ht : ∀ r ∈ rows, Ctr Try.prog 73 [.ag r] (.ag r) [] ∧ ∃ x : Mg, r = x.enc) : Ctr Try.prog 74 [.sl 16 rows] (.sl 16 rows) [] := by
  have hm : rows.length ≤ maxLen := leMax (by omega)
  have hm' : rows.length ≤ 9223372036854775807 := by omega
  refine spec_of_body mixed Try.func74 rfl (by kernel_rfl) (by kernel_rfl) ?_; conv => whnf
  refine tri_born 3 1002 16 rfl rfl ?_
  conv => whnf
  refine tri_forO mixed (by kernel_rfl) (fun i : Nat => i ≤ rows.length) (fun i => [(8, iv i), (3, .ow 1002 0 (rows.take i).length)]) (fun _ => []) (fun i => [(1002, some (false, 16, rows.take i))]) [(1002, 1002)] (fun i => rows.length - i) 0 (Nat.zero_le _) ?_ ?_
  · conv => whnf
    (refine And.intro (And.intro (by with_unfolding_all rfl) (by intro q h; cases h)) ?_; refine And.intro ?_ (And.intro ?_ ?_) <;> (conv => whnf) <;> (repeat' (first | exact True.intro | (with_reducible exact rfl) | exact (rfl : List.replicate 0 PV.bad = []) | ((with_reducible refine And.intro ?_ ?_) <;> (first | (with_reducible exact wkV_same _ rfl) | exact wkV_pt rfl rfl | exact wkV_ow rfl rfl rfl | (refine wkV_ow rfl rfl ?_) | (refine wkV_sc (congrArg (Value.int .i64) ?_)) | (refine wkV_sc (congrArg Value.bool ?_)) | exact wkV_ls rfl | ((refine wkV_cl ?_); conv => whnf) | ((refine wkV_tu ?_); conv => whnf) | ((refine wkV_ag ?_); conv => whnf) | (conv => whnf))))))
    all_goals first | rfl | trace_state
  intro i hi
  conv => whnf
  ((first | (with_reducible refine split_dec (fun h => ?_) (fun h => ?_)) | (with_reducible refine split_beq (fun h => ?_) (fun h => ?_)) | (with_reducible refine split_bne (fun h => ?_) (fun h => ?_)) | (with_reducible refine split_not (fun h => ?_) (fun h => ?_)) | (with_reducible refine split_beqS (fun h => ?_) (fun h => ?_)) | (with_reducible refine split_intro (fun h => ?_) (fun h => ?_))) <;> conv => whnf)
  · have hlt : i < rows.length := by omega
    have hrow : rows[((i : Nat) : Int).toNat]? = some (rows[i]'hlt) := by rw [Int.toNat_natCast, List.getElem?_eq_getElem hlt]
    obtain ⟨hc, x, hx⟩ := ht _ (List.getElem_mem hlt)
    have hsucc : rows.take (i + 1) = rows.take i ++ [rows[i]'hlt] := List.take_succ_eq_append_getElem hlt
    have hlen : (rows.take i).length = i := by rw [List.length_take]; omega
    generalize rows[i]'hlt = r at *
    subst hx
    refine ⟨by omega, _, hrow, ?_⟩
    conv => whnf
    ((try ((refine Exists.intro none ?_); (conv => whnf))); first | ((with_reducible refine call_by (hc) ?_); conv => whnf))
    (refine Exists.intro _ (And.intro rfl (And.intro (by intro q _; simp only [List.length_nil]; omega) (And.intro (by intro i hi; exact absurd hi (Nat.not_lt_zero i)) ?_))); conv => whnf)
    have hb : ((rows.take i).length + 1) * 176 ≤ 140737488355328 := by omega
    (refine And.intro rfl ?_; (conv => whnf); refine And.intro (And.intro (And.intro (by kernel_rfl) (And.intro (Nat.le_refl _) (And.intro (hb) (And.intro (leMax (by show (rows.take i).length + 1 ≤ _; omega)) (by intro r hr; rw [List.mem_singleton.1 hr]; rfl))))) (And.intro (by decide) rfl)) ?_; conv => whnf)
    refine ⟨i + 1, [(1002, 256)], ⟨by omega, by omega⟩, ?_⟩
    conv => whnf
    (refine And.intro (And.intro (by with_unfolding_all rfl) (by intro q h; cases h)) ?_; refine And.intro ?_ (And.intro ?_ ?_) <;> (conv => whnf) <;> (repeat' (first | exact True.intro | (with_reducible exact rfl) | exact (rfl : List.replicate 0 PV.bad = []) | ((with_reducible refine And.intro ?_ ?_) <;> (first | (with_reducible exact wkV_same _ rfl) | exact wkV_pt rfl rfl | exact wkV_ow rfl rfl rfl | (refine wkV_ow rfl rfl ?_) | (refine wkV_sc (congrArg (Value.int .i64) ?_)) | (refine wkV_sc (congrArg Value.bool ?_)) | exact wkV_ls rfl | ((refine wkV_cl ?_); conv => whnf) | ((refine wkV_tu ?_); conv => whnf) | ((refine wkV_ag ?_); conv => whnf) | (conv => whnf))))))
    all_goals first | exact w1 (by omega) | (refine obj_eq (by kernel_rfl) ?_; rw [hsucc, List.take_of_length_le (Nat.le_refl _)]; done) | (refine obj_eq (by kernel_rfl) ?_; rw [hsucc, List.take_of_length_le (Nat.le_refl _)]; rfl) | (rw [hsucc, List.length_append]; done) | (rw [hsucc, List.length_append]; rfl) | rfl | trace_state
  · have e : rows.take i = rows := List.take_of_length_le (by omega)
    refine exit_fz2 [(1002, false, 16, rows.take i)] (fun q hq => by rw [List.mem_singleton.1 hq]; rfl) ?_
    rw [e]
    exact wkV_fz2 (b := false) (List.Mem.head _) rfl
theorem c_twin1 (x : Mg) (hz : MgSz x) (hin : ∀ r ∈ x.inner, Ctr Try.prog 73 [.ag r] (.ag r) [] ∧ ∃ y : Mg, r = y.enc) : Ctr Try.prog 73 [.ag x.enc] (.ag x.enc) [] := by
  have k1 := c_CloneEntS x.entries hz.es
  have k2 := c_CloneBytS x.snap hz.sn
  have k3 := c_twinsS x.inner hz.inn hin
  refine spec_of_body mixed Try.func73 rfl (by kernel_rfl) (by kernel_rfl) ?_; conv => whnf
  ((try ((refine Exists.intro none ?_); (conv => whnf))); first | ((with_reducible refine call_by (k1) ?_); conv => whnf))
  (refine Exists.intro _ (And.intro rfl (And.intro (by intro q _; simp only [List.length_nil]; omega) (And.intro (by intro i hi; exact absurd hi (Nat.not_lt_zero i)) ?_))); conv => whnf)
  ((try ((refine Exists.intro none ?_); (conv => whnf))); first | ((with_reducible refine call_by (k2) ?_); conv => whnf))
  (refine Exists.intro _ (And.intro rfl (And.intro (by intro q _; simp only [List.length_nil]; omega) (And.intro (by intro i hi; exact absurd hi (Nat.not_lt_zero i)) ?_))); conv => whnf)
  ((try ((refine Exists.intro none ?_); (conv => whnf))); first | ((with_reducible refine call_by (k3) ?_); conv => whnf))
  (refine Exists.intro _ (And.intro rfl (And.intro (by intro q _; simp only [List.length_nil]; omega) (And.intro (by intro i hi; exact absurd hi (Nat.not_lt_zero i)) ?_))); conv => whnf)
  exact exit_plain rfl rfl
theorem c_twinS : ∀ (n : Nat) (ls : List PV), TypedS Try.prog n 58 ls → Ctr Try.prog 73 [.ag ls] (.ag ls) [] := by
  intro n
  induction n using Nat.strongRecOn with
  | _ n ih =>
    intro ls h
    cases n with
    | zero => exact h.elim
    | succ n =>
      obtain ⟨x, rfl, hok, hz, hin⟩ := typedS_Mg h
      exact c_twin1 x hz (fun r hr => by
        obtain ⟨k, hk, ht⟩ := hin r hr
        refine ⟨ih k (by omega) r ht, ?_⟩
        cases k with
        | zero => exact ht.elim
        | succ k =>
          obtain ⟨y, hy, _⟩ := typedS_Mg ht
          exact ⟨y, hy⟩)
theorem c_rtwin (x : Mg) (h : MgS x) : Ctr Try.prog 73 [.ag x.enc] (.ag x.enc) [] := by
  obtain ⟨n, hn⟩ := h
  exact c_twinS n _ hn
end Go.Proofs
