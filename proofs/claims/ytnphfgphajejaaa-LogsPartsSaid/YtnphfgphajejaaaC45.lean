/- Plain law: what is put part by part is put at once. -/
import Derived.Test.YtnphfgphajejaaaC41
namespace Go.Proofs
open Go.Pv
set_option maxRecDepth 100000

theorem putM_nil (g : List Ent) : putM g [] = g := by cases g <;> rfl
theorem putM_none (l : List Ent) : putM [] l = l := by cases l <;> rfl
theorem putM_split : ∀ (g l : List Ent) (k : Nat), k ≤ l.length → (putM g (l.take k)).take k ++ putM ((putM g (l.take k)).drop k) (l.drop k) = putM g l
  | g, l, 0, _ => by simp [putM_nil]
  | g, [], k + 1, h => by simp at h
  | [], x :: l, k + 1, h => by
    have h' : k ≤ l.length := by simpa using h
    have h1 : ((x :: l).take (k + 1)).length = k + 1 := by simp; omega
    rw [putM_none, putM_none, List.take_take, Nat.min_self, List.drop_eq_nil_of_le (by omega), putM_none, List.take_append_drop]
  | y :: g, x :: l, k + 1, h => by
    have h' : k ≤ l.length := by simpa using h
    by_cases e : y.term = x.term
    · rw [List.take_succ_cons, putM, if_pos e, List.take_succ_cons, List.drop_succ_cons, List.drop_succ_cons, List.cons_append, putM_split g l k h', putM, if_pos e]
    · have h1 : (x :: l.take k).length = k + 1 := by simp; omega
      rw [List.take_succ_cons, putM, if_neg e, List.take_of_length_le (by omega), List.drop_eq_nil_of_le (by omega), putM_none, List.drop_succ_cons, List.cons_append, List.take_append_drop, putM, if_neg e]

theorem putG_split {g l : List Ent} {n k : Nat} (hn : n ≤ g.length) (hk : k ≤ l.length) : putG (putG g n (l.take k)) (n + k) (l.drop k) = putG g n l := by
  have h1 : (g.take n).length = n := by simp; omega
  show (putG g n (l.take k)).take (n + k) ++ putM ((putG g n (l.take k)).drop (n + k)) (l.drop k) = g.take n ++ putM (g.drop n) l
  rw [← putM_split (g.drop n) l k hk, List.take_add, putG_take g _ hn, putG_drop g _ hn, List.append_assoc, ← List.drop_drop, putG_drop g _ hn]

theorem behind_put {g l : List Ent} {b : Int} {n k : Nat} (hn : n ≤ g.length) (hk : k ≤ l.length) : behind (putG g n (l.take k)) b (n + k) = behind (l.take k) (behind g b n) (l.take k).length := by
  have hl : (l.take k).length = k := by simp; omega
  rw [hl]
  cases k with
  | zero =>
    rw [Nat.add_zero, behind_0]
    unfold behind
    rw [putG_take g _ hn]
  | succ k =>
    have h3 := (putM_len (g.drop n) (l.take (k + 1))).2
    have h4 : n + k < (putG g n (l.take (k + 1))).length := by
      unfold putG
      rw [List.length_append, List.length_take]; omega
    rw [show n + (k + 1) = n + k + 1 from rfl, behind_succ h4, behind_succ (by omega)]
    obtain ⟨a, h5, h6⟩ := putM_term (g.drop n) (l.take (k + 1)) k (by omega)
    rw [← h6]
    have h7 : (putG g n (l.take (k + 1)))[n + k]? = some a := by
      rw [← List.getElem?_drop, putG_drop g _ hn, h5]
    rw [List.getElem?_eq_getElem h4, Option.some.injEq] at h7
    rw [h7]

theorem rowB_parts {l : List Ent} {b t : Int} (h : rowB l b t = true) (k : Nat) : rowB (l.take k) b t = true ∧ rowB (l.drop k) (behind (l.take k) b (l.take k).length) t = true := by
  rw [← List.take_append_drop k l, rowB_append, Bool.and_eq_true] at h
  exact h
theorem PutOk.part {h : Hrd} {i : Int} {l : List Ent} {n k : Nat} (o : PutOk h i l n) (hk : k ≤ l.length) : PutOk h i (l.take k) n ∧ PutOk (putH h i (l.take k)) (i + k) (l.drop k) (n + k) ∧ putH (putH h i (l.take k)) (i + k) (l.drop k) = putH h i l := by
  obtain ⟨r1, r2⟩ := rowB_parts o.row k
  have o1 : PutOk h i (l.take k) n := ⟨o.hard, o.at', o.le, r1⟩
  have hr := o1.right
  have hlog := o1.log
  have ha := o.at'
  have h3 := (putM_len (h.log.drop n) (l.take k)).2
  have h4 : (l.take k).length = k := by simp; omega
  have h5 : n + k ≤ (putG h.log n (l.take k)).length := by
    have := o.le
    unfold putG
    rw [List.length_append, List.length_take]; omega
  have o2 : PutOk (putH h i (l.take k)) (i + k) (l.drop k) (n + k) := ⟨hr, by show i + k = h.base + ((n + k : Nat) : Int); omega, by rw [hlog]; exact h5, by
    rw [hlog]
    show rowB (l.drop k) (behind (putG h.log n (l.take k)) h.baseTerm (n + k)) h.term = true
    rw [behind_put o.le hk]; exact r2⟩
  refine ⟨o1, o2, ?_⟩
  rw [o2.log, o.log, hlog]
  simp only [putG_split o.le hk]
end Go.Proofs
