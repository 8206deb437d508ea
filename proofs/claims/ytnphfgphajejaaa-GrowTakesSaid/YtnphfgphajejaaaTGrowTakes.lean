import Derived.Test.YtnphfgphajejaaaC59
import Derived.Test.YtnphfgphajejaaaC61
set_option linter.unusedSimpArgs false
set_option linter.unusedVariables false
namespace Go.Proofs
open Go.Pv
set_option maxRecDepth 100000

theorem heavyH_lenG {h : Hrd} (e : heavyH h = false) : h.log.length ≤ 200 ∧ h.snap.length ≤ 32768 := by
  simp only [heavyH, heavyEs, Bool.or_eq_false_iff, decide_eq_false_iff_not] at e
  omega
theorem s_HardZ : Ctr Try.prog 119 [.ag hzv, .ag hzv] (bv true) [] := by
  have := s_Hard ⟨0, 0, 0, 0, ⟨0, 0, 0, 0⟩, [], []⟩ (by simp) (by simp)
  refine this.deep ?_
  repeat' (first | exact subVL_nil | refine subVL_cons ?_ ?_ | exact SubV.refl _ | exact subV_nl | refine subV_ag ?_)
theorem subVR_map {α : Type} {f g : α → List PV} : ∀ (l : List α), (∀ x ∈ l, SubVL (f x) (g x)) → SubVR (l.map f) (l.map g)
  | [], _ => subVR_nil
  | x :: l, h => subVR_cons (h x (by simp)) (subVR_map l fun y hy => h y (by simp [hy]))
theorem subVL_ofEq {a b : List PV} (h : a = b) : SubVL a b := by subst h; exact SubVL.refl _

theorem s_MsgTw (m : Mg) (hm : m.ok) (h1 : m.entries.length ≤ 4294967) (h2 : m.snap.length ≤ 4294967) (h3 : m.inn.length ≤ 4294967)
    (h4 : ∀ y ∈ m.inn, (y.entries.length ≤ 4294967 ∧ y.snap.length ≤ 4294967) ∧ y.inn.length ≤ 4294967) :
    Ctr Try.prog 151 [.ag (lowN m (.sl 16 (m.inn.map twR))), .ag m.enc] (bv true) [] := by
  obtain ⟨e, hok⟩ := Mg.inn_spec hm
  have k := s_Msg m m.inn h3 (fun z => z.inn.map lowR) (fun z hz => by
    obtain ⟨⟨a1, a2⟩, a3⟩ := h4 z hz
    obtain ⟨e2, _⟩ := Mg.inn_spec (hok z hz)
    exact ⟨by rw [e2, List.length_map, List.length_map], smallM (by omega), smallM (by omega)⟩) (smallM (by omega)) (smallM (by omega))
  rw [← e] at k
  refine k.deep ?_
  refine subVL_cons (subV_ag ?_) (subVL_cons (SubV.refl _) subVL_nil)
  repeat' (first | exact subVL_nil | exact subV_sl (subVR_map _ (fun z hz => by
      show SubVL (twR z) (lowN z (.sl 16 (z.inn.map lowR)))
      unfold twR
      cases z.inn with
      | nil => repeat' (first | exact subVL_nil | refine subVL_cons ?_ ?_ | exact SubV.refl _ | exact subV_nl)
      | cons => exact SubVL.refl _)) | refine subVL_cons ?_ ?_ | exact SubV.refl _)

set_option maxHeartbeats 4000000 in
theorem l_GrowTakes (a : Hrd) (hbI : isI a.base) (c : Int) (m : Mg) (hm : m.ok) : Ctr Try.prog 30 [.ag a.enc, iv c, .ag m.enc] (bv true) [] := by
  refine spec_of_body mixed Try.func30 rfl (by kernel_rfl) (by kernel_rfl) ?_; conv => whnf
  ((try ((refine Exists.intro none ?_); (conv => whnf))); first | ((with_reducible refine call_by (c_Heavy09 a) ?_); conv => whnf))
  ((first | (with_reducible refine split_dec (fun h => ?_) (fun h => ?_)) | (with_reducible refine split_beq (fun h => ?_) (fun h => ?_)) | (with_reducible refine split_bne (fun h => ?_) (fun h => ?_)) | (with_reducible refine split_not (fun h => ?_) (fun h => ?_)) | (with_reducible refine split_beqS (fun h => ?_) (fun h => ?_)) | (with_reducible refine split_intro (fun h => ?_) (fun h => ?_))) <;> conv => whnf)
  · exact exit_plain rfl rfl
  obtain ⟨hal, has⟩ := heavyH_lenG h
  clear h
  ((try ((refine Exists.intro none ?_); (conv => whnf))); first | ((with_reducible refine call_by (c_HeavyMsg m hm) ?_); conv => whnf))
  ((first | (with_reducible refine split_dec (fun h => ?_) (fun h => ?_)) | (with_reducible refine split_beq (fun h => ?_) (fun h => ?_)) | (with_reducible refine split_bne (fun h => ?_) (fun h => ?_)) | (with_reducible refine split_not (fun h => ?_) (fun h => ?_)) | (with_reducible refine split_beqS (fun h => ?_) (fun h => ?_)) | (with_reducible refine split_intro (fun h => ?_) (fun h => ?_))) <;> conv => whnf)
  · exact exit_plain rfl rfl
  obtain ⟨⟨hml, hms⟩, hmi, hmy⟩ := heavyM_len h
  clear h
  have t1 := c_TwinHardV a (by omega) (by omega)
  have t2 := c_TwinMsg m hm (by omega) (by omega) (by omega) (fun y hy => by
    obtain ⟨⟨a1, a2⟩, a3, a4⟩ := hmy y hy
    exact ⟨⟨by omega, by omega⟩, by omega, fun z hz => by have := a4 z hz; omega⟩)
  have t3 := s_MsgTw m hm (by omega) (by omega) (by omega) (fun y hy => by
    obtain ⟨⟨a1, a2⟩, a3, a4⟩ := hmy y hy
    exact ⟨⟨by omega, by omega⟩, by omega⟩)
  have t4 := s_Hard a (smallM (by omega)) (smallM (by omega))
  ((try ((refine Exists.intro none ?_); (conv => whnf))); first | ((with_reducible refine call_by (t1) ?_); conv => whnf))
  (refine Exists.intro _ (And.intro rfl (And.intro (by intro q _; simp only [List.length_nil]; omega) (And.intro (by intro i hi; exact absurd hi (Nat.not_lt_zero i)) ?_))); conv => whnf)
  ((try ((refine Exists.intro none ?_); (conv => whnf))); first | ((with_reducible refine call_by (t2) ?_); conv => whnf))
  (refine Exists.intro _ (And.intro rfl (And.intro (by intro q _; simp only [List.length_nil]; omega) (And.intro (by intro i hi; exact absurd hi (Nat.not_lt_zero i)) ?_))); conv => whnf)
  have k2 := c_rGrow a (by omega) (by omega) hbI c m (by omega)
  by_cases e : growE a c m = 0
  · have k1 := c_grow a (by omega) (by omega) hbI c (m.wi (m.inn.map twR)) (by show m.entries.length ≤ _; omega)
    have e' : growE a c (m.wi (m.inn.map twR)) = 0 := e
    rw [(resG_ok e').1, (resG_ok e').2.1] at k1
    rw [(resG_ok e).2.2] at k2
    have hxl := grow_len (by omega) e
    have hxs := grow_snap e
    have eo : growO a c (m.wi (m.inn.map twR)) = growO a c m := rfl
    rw [eo] at k1
    generalize growO a c m = o at *
    obtain ⟨x, d, yes, i⟩ := o
    simp only at k1 k2 hxl hxs
    have ks := s_Hard x (smallM (by rw [hxs]; omega)) (smallM (by omega))
    have ksp := c_SpoilHard x (by rw [hxs]; omega) (by omega)
    ((try ((refine Exists.intro none ?_); (conv => whnf))); first | ((with_reducible refine call_by (k1) ?_); conv => whnf))
    (refine Exists.intro _ (And.intro rfl (And.intro (by intro q hq; first | (cases hq; done) | (simp only [List.mem_cons, List.not_mem_nil, or_false] at hq; rcases hq with rfl | rfl <;> (simp only [List.length_cons, List.length_nil]; omega)) | (simp only [List.mem_cons, List.not_mem_nil, or_false] at hq; subst hq; simp only [List.length_cons, List.length_nil]; omega)) (And.intro (by intro i hi; rcases i with _ | _ | i; rfl; rfl; exact absurd hi (by simp)) ?_))); conv => whnf)
    ((try ((refine Exists.intro none ?_); (conv => whnf))); first | ((with_reducible refine call_by (k2) ?_); conv => whnf))
    (refine Exists.intro _ (And.intro rfl (And.intro (by intro q _; simp only [List.length_nil]; omega) (And.intro (by intro i hi; exact absurd hi (Nat.not_lt_zero i)) ?_))); conv => whnf)
    ((try ((refine Exists.intro none ?_); (conv => whnf))); (first | (with_reducible refine And.intro (Nat.le_of_eq (Nat.zero_add _)) ?_) | (refine And.intro (by simp only [List.length_map, List.length_set, Nat.zero_add]; omega) ?_)); conv => whnf)
    ((try ((refine Exists.intro none ?_); (conv => whnf))); (first | (with_reducible refine And.intro (Nat.le_of_eq (Nat.zero_add _)) ?_) | (refine And.intro (by simp only [List.length_map, List.length_set, Nat.zero_add]; omega) ?_)); conv => whnf)
    ((try ((refine Exists.intro none ?_); (conv => whnf))); first | (refine call_eq (ks) (by simp only [List.drop_zero, List.take_length]) ?_; conv => whnf))
    ((first | (with_reducible refine split_et rfl ?_) | (with_reducible refine split_bf rfl ?_) | (with_reducible refine split_t (beq_self_eq_true _) ?_) | (with_reducible refine split_f (bne_self_eq_false _) ?_)); conv => whnf)
    ((try ((refine Exists.intro none ?_); (conv => whnf))); first | ((with_reducible refine call_by (s_ans yes i) ?_); conv => whnf))
    ((refine Exists.intro (some ([], [(1000000, 496), (1000001, 497)], [])) ?_); (conv => whnf); first | ((with_reducible refine callE_by (ksp) ?_); conv => whnf))
    ((try ((refine Exists.intro none ?_); (conv => whnf))); first | ((with_reducible refine call_by (t4) ?_); conv => whnf))
    ((try ((refine Exists.intro none ?_); (conv => whnf))); first | ((with_reducible refine call_by (t3) ?_); conv => whnf))
    ((try ((refine Exists.intro none ?_); (conv => whnf))); first | ((with_reducible refine call_by (c_wakes16) ?_); conv => whnf))
    exact exit_plain rfl rfl
  · have k1 := c_growV a (by omega) (by omega) hbI c (m.wi (m.inn.map twR)) (by show m.entries.length ≤ _; omega)
    have e' : ¬ growE a c (m.wi (m.inn.map twR)) = 0 := e
    rw [(resG_no e').2.2] at k1
    rw [(resG_no e).2.2] at k2
    have ee : growE a c (m.wi (m.inn.map twR)) = growE a c m := rfl
    rw [ee] at k1
    ((try ((refine Exists.intro none ?_); (conv => whnf))); first | ((with_reducible refine call_by (k1) ?_); conv => whnf))
    ((try ((refine Exists.intro none ?_); (conv => whnf))); first | ((with_reducible refine call_by (k2) ?_); conv => whnf))
    ((try ((refine Exists.intro none ?_); (conv => whnf))); first | ((with_reducible refine call_by (s_HardZ) ?_); conv => whnf))
    ((try ((refine Exists.intro none ?_); (conv => whnf))); first | ((with_reducible refine call_by (s_MsgZ) ?_); conv => whnf))
    ((first | (with_reducible refine split_et rfl ?_) | (with_reducible refine split_bf rfl ?_) | (with_reducible refine split_t (beq_self_eq_true _) ?_) | (with_reducible refine split_f (bne_self_eq_false _) ?_)); conv => whnf)
    ((try ((refine Exists.intro none ?_); (conv => whnf))); first | ((with_reducible refine call_by (c_SpoilNone) ?_); conv => whnf))
    ((try ((refine Exists.intro none ?_); (conv => whnf))); first | ((with_reducible refine call_by (t4) ?_); conv => whnf))
    ((try ((refine Exists.intro none ?_); (conv => whnf))); first | ((with_reducible refine call_by (t3) ?_); conv => whnf))
    ((try ((refine Exists.intro none ?_); (conv => whnf))); first | ((with_reducible refine call_by (c_wakes16) ?_); conv => whnf))
    exact exit_plain rfl rfl

theorem told_GrowTakes (qs : List PV) (h : ArgsOf Try.prog [32, 3, 39] qs) : Ctr Try.prog 30 qs (bv true) [] := by
  obtain ⟨p1, qs, rfl, h1, h⟩ := argsOf_cons h
  obtain ⟨p2, qs, rfl, h2, h⟩ := argsOf_cons h
  obtain ⟨p3, qs, rfl, h3, h⟩ := argsOf_cons h
  obtain rfl := argsOf_nil h
  obtain ⟨a, rfl, ha⟩ := arg_Hrd h1
  obtain ⟨c, rfl, _⟩ := arg_i h2
  obtain ⟨m, rfl, hm⟩ := arg_Mg h3
  exact l_GrowTakes a ha.2.2.1 c m hm
end Go.Proofs
