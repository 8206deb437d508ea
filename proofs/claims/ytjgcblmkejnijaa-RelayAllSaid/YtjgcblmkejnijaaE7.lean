/- Contract of relay.Bundle (printed by genE7.py). -/
import Derived.Test.YtjgcblmkejnijaaE6
import Derived.Test.YtjgcblmkejnijaaPvY
set_option linter.unusedSimpArgs false
set_option linter.unusedVariables false
namespace Go.Proofs
open Go.Pv
set_option maxRecDepth 100000

def grp (p : List Pl) (frm : Int) (l : List Mg) (r : Int) : List Mg := l.filter fun m => decide (rgM p frm (regP p frm) m = r)
noncomputable def bitsG (g : List Mg) : Int := g.foldl (fun b m => bor b (shl 1 m.to)) 0
theorem bitsG_succ {g : List Mg} {j : Nat} (h : j < g.length) : bitsG (g.take (j + 1)) = bor (bitsG (g.take j)) (shl 1 (g[j]'h).to) := by
  unfold bitsG
  rw [List.take_succ_eq_append_getElem h, List.foldl_append]; rfl
/-- The node that passes on for a region; below nought: all goes straight. -/
noncomputable def pxR (p : List Pl) (frm up : Int) (l : List Mg) (r : Int) : Int :=
  if r ≠ regP p frm then (if 2 ≤ (grp p frm l r).length then (if (grp p frm l r).length ≤ 16 then bestP (regL p r) (iand .i64 (bitsG (grp p frm l r)) up) else -1) else -1) else -1
/-- Has a region's message been sent? -/
noncomputable def sentR (p : List Pl) (frm up : Int) (l : List Mg) (r : Int) (i : Nat) : Bool := decide (0 ≤ pxR p frm up l r) && (l.take i).any fun m => decide (rgM p frm (regP p frm) m = r)
abbrev relV (frm to : Int) (rows : List (List PV)) : List PV := [iv 9, iv frm, iv to, iv 0, iv 0, iv 0, iv 0, iv 0, bv false, .nl, iv 0, iv 0, iv 0, iv 0, .nl, .sl 16 rows]
noncomputable def emitR (p : List Pl) (frm up : Int) (l : List Mg) (i : Nat) (m : Mg) : List (List PV) :=
  if pxR p frm up l (rgM p frm (regP p frm) m) < 0 then [m.enc] else if sentR p frm up l (rgM p frm (regP p frm) m) i = true then [] else [relV frm (pxR p frm up l (rgM p frm (regP p frm) m)) ((grp p frm l (rgM p frm (regP p frm) m)).map Mg.enc)]
noncomputable def outR (p : List Pl) (frm up : Int) (l : List Mg) : Nat → List (List PV)
  | 0 => []
  | i + 1 => outR p frm up l i ++ (match l[i]? with | some m => emitR p frm up l i m | none => [])
theorem outR_succ {p : List Pl} {frm up : Int} {l : List Mg} {i : Nat} (h : i < l.length) : outR p frm up l (i + 1) = outR p frm up l i ++ emitR p frm up l i (l[i]'h) := by
  conv => lhs; unfold outR
  rw [List.getElem?_eq_getElem h]
theorem outR_len (p : List Pl) (frm up : Int) (l : List Mg) : ∀ i, (outR p frm up l i).length ≤ i
  | 0 => Nat.le_refl _
  | i + 1 => by
    have h := outR_len p frm up l i
    unfold outR
    rw [List.length_append]
    have : (match l[i]? with | some m => emitR p frm up l i m | none => []).length ≤ 1 := by
      split
      · unfold emitR
        split
        · exact Nat.le_refl _
        · split
          · exact Nat.zero_le _
          · exact Nat.le_refl _
      · exact Nat.zero_le _
    omega
theorem sentR_succ {p : List Pl} {frm up : Int} {l : List Mg} {i : Nat} (h : i < l.length) (r : Int) : sentR p frm up l r (i + 1) = (sentR p frm up l r i || (decide (0 ≤ pxR p frm up l r) && decide (rgM p frm (regP p frm) (l[i]'h) = r))) := by
  unfold sentR
  rw [List.take_succ_eq_append_getElem h, List.any_append, Bool.and_or_distrib_left]
  simp
theorem sentR_0 (p : List Pl) (frm up : Int) (l : List Mg) (r : Int) : sentR p frm up l r 0 = false := by unfold sentR; simp
abbrev nlc (d : Bool) (rows : List (List PV)) : PV := cond d (.sc (.slice none 0 0)) (.sl 16 rows)
theorem wkV_nlc {kb : List Nat} {rn : List (Nat × Nat)} {fz : List (Nat × Bool × Nat × List (List PV))} (d : Bool) (rows : List (List PV)) : WkV kb rn fz (nlc d rows) (nlc d rows) := by
  cases d
  · exact wkV_same _ rfl
  · exact wkV_same _ rfl

theorem c_BundleE (l : List Mg) (p : List Pl) (hl : p.length ≤ 4294967) (h : plsB p = false) (frm up : Int) : Ctr Try.prog 30 [.sl 16 (l.map Mg.enc), .sl 4 (p.map Pl.enc), iv frm, iv up] (.tu [.nl, iv 1]) [] := by
  have k := c_PCheck p hl
  rw [h, if_neg (by decide)] at k
  refine spec_of_body mixed Try.func30 rfl (by kernel_rfl) (by kernel_rfl) ?_; conv => whnf
  ((try ((refine Exists.intro none ?_); (conv => whnf))); first | ((with_reducible refine call_by (k) ?_); conv => whnf))
  exact exit_plain rfl rfl
theorem c_BundleF (l : List Mg) (p : List Pl) (hl : p.length ≤ 4294967) (h : plsB p = true) (frm up : Int) (hf : ¬ (0 ≤ frm ∧ frm < 7)) : Ctr Try.prog 30 [.sl 16 (l.map Mg.enc), .sl 4 (p.map Pl.enc), iv frm, iv up] (.tu [.nl, iv 1]) [] := by
  have k := c_PCheck p hl
  rw [if_pos h] at k
  have kn := c_rnode frm
  rw [decide_eq_false hf] at kn
  refine spec_of_body mixed Try.func30 rfl (by kernel_rfl) (by kernel_rfl) ?_; conv => whnf
  ((try ((refine Exists.intro none ?_); (conv => whnf))); first | ((with_reducible refine call_by (k) ?_); conv => whnf))
  ((try ((refine Exists.intro none ?_); (conv => whnf))); first | ((with_reducible refine call_by (kn) ?_); conv => whnf))
  exact exit_plain rfl rfl

set_option maxHeartbeats 16000000 in
theorem c_Bundle (l : List Mg) (hll : l.length ≤ 4294967) (hms : ∀ m ∈ l, Ctr Try.prog 73 [.ag m.enc] (.ag m.enc) []) (p : List Pl) (hl : p.length ≤ 4294967) (h : plsB p = true) (frm up : Int) (hf : 0 ≤ frm ∧ frm < 7) :
    Ctr Try.prog 30 [.sl 16 (l.map Mg.enc), .sl 4 (p.map Pl.enc), iv frm, iv up] (.tu [.sl 16 (outR p frm up l l.length), iv 0]) [] := by
  have k := c_PCheck p hl
  rw [if_pos h] at k
  have kn := c_rnode frm
  rw [decide_eq_true hf] at kn
  have kh := c_Region p hl frm
  have hhome := regP_in h frm
  have kreg := fun m => c_rgM p hl frm (regP p frm) m
  have hrg := fun m => rgM_in (frm := frm) h hhome m
  have kpx : ∀ r bits, 0 ≤ r ∧ r < 3 → Ctr Try.prog 26 [.sl 4 (p.map Pl.enc), iv r, iv bits] (.tu [iv (bestP (regL p r) bits), iv 0]) [] := fun r bits hr => c_Proxy p hl h r hr bits
  have hto : ∀ r m, m ∈ grp p frm l r → r ≠ regP p frm → 0 ≤ m.to ∧ m.to < 7 := fun r m hm hr => by
    have h2 := (List.mem_filter.1 hm).2
    have h3 : rgM p frm (regP p frm) m = r := of_decide_eq_true h2
    unfold rgM at h3
    by_cases ha : awayM frm m = true
    · unfold awayM at ha
      by_cases hc : ¬ (0 ≤ m.to ∧ m.to < 7)
      · rw [if_pos hc] at ha; cases ha
      · exact Classical.byContradiction hc
    · rw [if_neg ha] at h3; exact absurd h3.symm hr
  have hmg : ∀ r m, m ∈ l → rgM p frm (regP p frm) m = r → m ∈ grp p frm l r := fun r m hm hr => List.mem_filter.2 ⟨hm, decide_eq_true hr⟩
  have hgl : ∀ r, (grp p frm l r).length ≤ l.length := fun r => List.length_filter_le _ _
  have hpx : ∀ r, pxR p frm up l r = if r ≠ regP p frm then (if 2 ≤ (grp p frm l r).length then (if (grp p frm l r).length ≤ 16 then bestP (regL p r) (iand .i64 (bitsG (grp p frm l r)) up) else -1) else -1) else -1 := fun r => rfl
  have hemit : ∀ i m, emitR p frm up l i m = if pxR p frm up l (rgM p frm (regP p frm) m) < 0 then [m.enc] else if sentR p frm up l (rgM p frm (regP p frm) m) i = true then [] else [relV frm (pxR p frm up l (rgM p frm (regP p frm) m)) ((grp p frm l (rgM p frm (regP p frm) m)).map Mg.enc)] := fun i m => rfl
  have hss := fun i (hi : i < l.length) r => sentR_succ (p := p) (frm := frm) (up := up) hi r
  have hs0 := fun r => sentR_0 p frm up l r
  have hos := fun i (hi : i < l.length) => outR_succ (p := p) (frm := frm) (up := up) hi
  have hol := fun i => outR_len p frm up l i
  have ho0 : outR p frm up l 0 = [] := rfl
  have hgr : ∀ r, (grp p frm l r).map Mg.enc = fl (fun m => decide (rgM p frm (regP p frm) m = r)) l l.length := fun r => by rw [fl_all]; rfl
  generalize hG : (fun r i => fl (fun m => decide (rgM p frm (regP p frm) m = r)) l i) = G
  have hG' : ∀ r i, fl (fun m => decide (rgM p frm (regP p frm) m = r)) l i = G r i := fun r i => by rw [← hG]
  have hGy : ∀ r i (hi : i < l.length), rgM p frm (regP p frm) (l[i]'hi) = r → G r (i + 1) = G r i ++ [(l[i]'hi).enc] := fun r i hi e => by rw [← hG', ← hG']; exact fl_yes hi (decide_eq_true e)
  have hGn : ∀ r i (hi : i < l.length), ¬ rgM p frm (regP p frm) (l[i]'hi) = r → G r (i + 1) = G r i := fun r i hi e => by rw [← hG', ← hG']; exact fl_no hi (decide_eq_false e)
  have hGl : ∀ r i, (G r i).length ≤ i := fun r i => by rw [← hG']; exact fl_len _ _ _
  have hG0 : ∀ r, G r 0 = [] := fun r => by rw [← hG']; rfl
  have hGg : ∀ r, G r l.length = (grp p frm l r).map Mg.enc := fun r => by rw [hgr, hG']
  clear hG hG' hgr
  generalize regP p frm = home at *
  refine spec_of_body mixed Try.func30 rfl (by kernel_rfl) (by kernel_rfl) ?_; conv => whnf
  ((try ((refine Exists.intro none ?_); (conv => whnf))); first | ((with_reducible refine call_by (k) ?_); conv => whnf))
  ((try ((refine Exists.intro none ?_); (conv => whnf))); first | ((with_reducible refine call_by (kn) ?_); conv => whnf))
  ((try ((refine Exists.intro none ?_); (conv => whnf))); first | ((with_reducible refine call_by (kh) ?_); conv => whnf))
  refine tri_bornB 12 0 1010 16 _ rfl rfl rfl ?_
  conv => whnf
  refine tri_bornB 12 1 1011 16 _ rfl rfl rfl ?_
  conv => whnf
  refine tri_bornB 12 2 1012 16 _ rfl rfl rfl ?_
  conv => whnf
  refine tri_forO mixed (by kernel_rfl) (fun i : Nat => i ≤ l.length) (fun i => [(42, iv i)]) (fun i => [(5, [.sl 4 (p.map Pl.enc)]), (6, [iv frm]), (11, [iv home]), (12, [.ow 1010 0 (G 0 i).length, .ow 1011 0 (G 1 i).length, .ow 1012 0 (G 2 i).length])])
    (fun i => [(1010, some (false, 16, G 0 i)), (1011, some (false, 16, G 1 i)), (1012, some (false, 16, G 2 i))]) [(1010, 1010), (1011, 1011), (1012, 1012)] (fun i => l.length - i) 0 (Nat.zero_le _) ?_ ?_
  · rw [hG0, hG0, hG0]
    conv => whnf
    (refine And.intro (And.intro (by with_unfolding_all rfl) (by intro q h; cases h)) ?_; refine And.intro ?_ (And.intro ?_ ?_) <;> (conv => whnf) <;> (repeat' (first | exact True.intro | (with_reducible exact rfl) | exact (rfl : List.replicate 0 PV.bad = []) | ((with_reducible refine And.intro ?_ ?_) <;> (first | (with_reducible exact wkV_same _ rfl) | exact wkV_pt rfl rfl | exact wkV_ow rfl rfl rfl | (refine wkV_ow rfl rfl ?_) | (refine wkV_sc (congrArg (Value.int .i64) ?_)) | (refine wkV_sc (congrArg Value.bool ?_)) | exact wkV_ls rfl | ((refine wkV_cl ?_); conv => whnf) | ((refine wkV_tu ?_); conv => whnf) | ((refine wkV_ag ?_); conv => whnf) | (conv => whnf))))))
    all_goals first | rfl | trace_state
  intro i hi
  have g0 := hGl 0 i
  have g1 := hGl 1 i
  have g2 := hGl 2 i
  conv => whnf
  ((first | (with_reducible refine split_dec (fun h => ?_) (fun h => ?_)) | (with_reducible refine split_beq (fun h => ?_) (fun h => ?_)) | (with_reducible refine split_bne (fun h => ?_) (fun h => ?_)) | (with_reducible refine split_not (fun h => ?_) (fun h => ?_)) | (with_reducible refine split_beqS (fun h => ?_) (fun h => ?_)) | (with_reducible refine split_intro (fun h => ?_) (fun h => ?_))) <;> conv => whnf)
  · have hlt : i < l.length := by simp only [List.length_map] at h; omega
    clear h
    have km := kreg (l[i]'hlt)
    have y0 := hGy 0 i hlt
    have y1 := hGy 1 i hlt
    have y2 := hGy 2 i hlt
    have n0 := hGn 0 i hlt
    have n1 := hGn 1 i hlt
    have n2 := hGn 2 i hlt
    (first | ((with_reducible refine And.intro (by omega) (Exists.intro _ (And.intro (row_at hlt) ?_))); conv => whnf))
    rcases hrg (l[i]'hlt) with hr | hr | hr
    · rw [hr] at km
      have a0 := y0 hr
      have a1 := n1 (by rw [hr]; decide)
      have a2 := n2 (by rw [hr]; decide)
      ((try ((refine Exists.intro none ?_); (conv => whnf))); first | ((with_reducible refine call_by (km) ?_); conv => whnf))
      ((try ((refine Exists.intro none ?_); (conv => whnf))); first | ((with_reducible refine call_by (km) ?_); conv => whnf))
      refine And.intro (by decide) ?_
      conv => whnf
      have b1 : ((G 0 i).length + 1) * 176 ≤ 140737488355328 := by omega
      have b2 : (G 0 i).length + 1 ≤ maxLen := leMax (by omega)
      (refine And.intro rfl ?_; (conv => whnf); refine And.intro (And.intro (And.intro (by kernel_rfl) (And.intro (Nat.le_refl _) (And.intro (b1) (And.intro (b2) (by intro r hr; rw [List.mem_singleton.1 hr]; rfl))))) (And.intro (by decide) rfl)) ?_; conv => whnf)
      refine And.intro (by decide) ?_
      conv => whnf
      refine ⟨i + 1, [(1010, 896), (1011, 1011), (1012, 1012)], ⟨by omega, by omega⟩, ?_⟩
      rw [a0, a1, a2]
      conv => whnf
      (refine And.intro (And.intro (by with_unfolding_all rfl) (by intro q h; cases h)) ?_; refine And.intro ?_ (And.intro ?_ ?_) <;> (conv => whnf) <;> (repeat' (first | exact True.intro | (with_reducible exact rfl) | exact (rfl : List.replicate 0 PV.bad = []) | ((with_reducible refine And.intro ?_ ?_) <;> (first | (with_reducible exact wkV_same _ rfl) | exact wkV_pt rfl rfl | exact wkV_ow rfl rfl rfl | (refine wkV_ow rfl rfl ?_) | (refine wkV_sc (congrArg (Value.int .i64) ?_)) | (refine wkV_sc (congrArg Value.bool ?_)) | exact wkV_ls rfl | ((refine wkV_cl ?_); conv => whnf) | ((refine wkV_tu ?_); conv => whnf) | ((refine wkV_ag ?_); conv => whnf) | (conv => whnf))))))
      all_goals first | exact w1 (by omega) | (refine obj_eq (by kernel_rfl) ?_; rw [List.take_of_length_le (Nat.le_refl _)]; done) | (refine obj_eq (by kernel_rfl) ?_; rw [List.take_of_length_le (Nat.le_refl _)]; rfl) | (rw [List.length_append]; done) | (rw [List.length_append]; rfl) | rfl | trace_state
    · rw [hr] at km
      have a0 := n0 (by rw [hr]; decide)
      have a1 := y1 hr
      have a2 := n2 (by rw [hr]; decide)
      ((try ((refine Exists.intro none ?_); (conv => whnf))); first | ((with_reducible refine call_by (km) ?_); conv => whnf))
      ((try ((refine Exists.intro none ?_); (conv => whnf))); first | ((with_reducible refine call_by (km) ?_); conv => whnf))
      refine And.intro (by decide) ?_
      conv => whnf
      have b1 : ((G 1 i).length + 1) * 176 ≤ 140737488355328 := by omega
      have b2 : (G 1 i).length + 1 ≤ maxLen := leMax (by omega)
      (refine And.intro rfl ?_; (conv => whnf); refine And.intro (And.intro (And.intro (by kernel_rfl) (And.intro (Nat.le_refl _) (And.intro (b1) (And.intro (b2) (by intro r hr; rw [List.mem_singleton.1 hr]; rfl))))) (And.intro (by decide) rfl)) ?_; conv => whnf)
      refine And.intro (by decide) ?_
      conv => whnf
      refine ⟨i + 1, [(1010, 1010), (1011, 896), (1012, 1012)], ⟨by omega, by omega⟩, ?_⟩
      rw [a0, a1, a2]
      conv => whnf
      (refine And.intro (And.intro (by with_unfolding_all rfl) (by intro q h; cases h)) ?_; refine And.intro ?_ (And.intro ?_ ?_) <;> (conv => whnf) <;> (repeat' (first | exact True.intro | (with_reducible exact rfl) | exact (rfl : List.replicate 0 PV.bad = []) | ((with_reducible refine And.intro ?_ ?_) <;> (first | (with_reducible exact wkV_same _ rfl) | exact wkV_pt rfl rfl | exact wkV_ow rfl rfl rfl | (refine wkV_ow rfl rfl ?_) | (refine wkV_sc (congrArg (Value.int .i64) ?_)) | (refine wkV_sc (congrArg Value.bool ?_)) | exact wkV_ls rfl | ((refine wkV_cl ?_); conv => whnf) | ((refine wkV_tu ?_); conv => whnf) | ((refine wkV_ag ?_); conv => whnf) | (conv => whnf))))))
      all_goals first | exact w1 (by omega) | (refine obj_eq (by kernel_rfl) ?_; rw [List.take_of_length_le (Nat.le_refl _)]; done) | (refine obj_eq (by kernel_rfl) ?_; rw [List.take_of_length_le (Nat.le_refl _)]; rfl) | (rw [List.length_append]; done) | (rw [List.length_append]; rfl) | rfl | trace_state
    · rw [hr] at km
      have a0 := n0 (by rw [hr]; decide)
      have a1 := n1 (by rw [hr]; decide)
      have a2 := y2 hr
      ((try ((refine Exists.intro none ?_); (conv => whnf))); first | ((with_reducible refine call_by (km) ?_); conv => whnf))
      ((try ((refine Exists.intro none ?_); (conv => whnf))); first | ((with_reducible refine call_by (km) ?_); conv => whnf))
      refine And.intro (by decide) ?_
      conv => whnf
      have b1 : ((G 2 i).length + 1) * 176 ≤ 140737488355328 := by omega
      have b2 : (G 2 i).length + 1 ≤ maxLen := leMax (by omega)
      (refine And.intro rfl ?_; (conv => whnf); refine And.intro (And.intro (And.intro (by kernel_rfl) (And.intro (Nat.le_refl _) (And.intro (b1) (And.intro (b2) (by intro r hr; rw [List.mem_singleton.1 hr]; rfl))))) (And.intro (by decide) rfl)) ?_; conv => whnf)
      refine And.intro (by decide) ?_
      conv => whnf
      refine ⟨i + 1, [(1010, 1010), (1011, 1011), (1012, 896)], ⟨by omega, by omega⟩, ?_⟩
      rw [a0, a1, a2]
      conv => whnf
      (refine And.intro (And.intro (by with_unfolding_all rfl) (by intro q h; cases h)) ?_; refine And.intro ?_ (And.intro ?_ ?_) <;> (conv => whnf) <;> (repeat' (first | exact True.intro | (with_reducible exact rfl) | exact (rfl : List.replicate 0 PV.bad = []) | ((with_reducible refine And.intro ?_ ?_) <;> (first | (with_reducible exact wkV_same _ rfl) | exact wkV_pt rfl rfl | exact wkV_ow rfl rfl rfl | (refine wkV_ow rfl rfl ?_) | (refine wkV_sc (congrArg (Value.int .i64) ?_)) | (refine wkV_sc (congrArg Value.bool ?_)) | exact wkV_ls rfl | ((refine wkV_cl ?_); conv => whnf) | ((refine wkV_tu ?_); conv => whnf) | ((refine wkV_ag ?_); conv => whnf) | (conv => whnf))))))
      all_goals first | exact w1 (by omega) | (refine obj_eq (by kernel_rfl) ?_; rw [List.take_of_length_le (Nat.le_refl _)]; done) | (refine obj_eq (by kernel_rfl) ?_; rw [List.take_of_length_le (Nat.le_refl _)]; rfl) | (rw [List.length_append]; done) | (rw [List.length_append]; rfl) | rfl | trace_state
  have ei : i = l.length := by simp only [List.length_map] at h; omega
  subst ei
  clear h
  rw [hGg, hGg, hGg]
  clear g0 g1 g2 hi hGl hG0 hGy hGn hGg
  have hlen0 := hgl 0
  have hlen1 := hgl 1
  have hlen2 := hgl 2
  have px0 := hpx 0
  have px1 := hpx 1
  have px2 := hpx 2
  have to0 := hto 0
  have to1 := hto 1
  have to2 := hto 2
  generalize hgg : grp p frm l = g at *
  refine tri_forF mixed (by kernel_rfl) (fun k : Nat => k ≤ 3) (fun k => [(60, iv k), (59, .ag [.sl 16 ((g 0).map Mg.enc), .sl 16 ((g 1).map Mg.enc), .sl 16 ((g 2).map Mg.enc)])])
    (fun k => [(5, [.sl 4 (p.map Pl.enc)]), (6, [iv frm]), (11, [iv home]), (12, [.sl 16 ((g 0).map Mg.enc), .sl 16 ((g 1).map Mg.enc), .sl 16 ((g 2).map Mg.enc)]), (16, [iv (match k with | 0 => 0 | _ + 1 => pxR p frm up l 0), iv (match k with | 0 => 0 | 1 => 0 | _ + 2 => pxR p frm up l 1), iv (match k with | 0 => 0 | 1 => 0 | 2 => 0 | _ + 3 => pxR p frm up l 2)])])
    (fun _ => []) [] [(1010, false, 16, (g 0).map Mg.enc), (1011, false, 16, (g 1).map Mg.enc), (1012, false, 16, (g 2).map Mg.enc)] (fun k => 3 - k) 0 (by decide) ?_ ?_
  · conv => whnf
    (refine And.intro (And.intro (by with_unfolding_all rfl) (by intro q hq; simp only [List.mem_cons, List.not_mem_nil, or_false] at hq; rcases hq with rfl | rfl | rfl <;> rfl)) ?_; refine And.intro ?_ (And.intro ?_ ?_) <;> (conv => whnf) <;> (repeat' (first | exact True.intro | (with_reducible exact rfl) | exact (rfl : List.replicate 0 PV.bad = []) | ((with_reducible refine And.intro ?_ ?_) <;> (first | (with_reducible exact wkV_same _ rfl) | exact wkV_pt rfl rfl | exact wkV_fz (b := false) (List.Mem.head _) rfl | exact wkV_fz (b := false) (List.Mem.tail _ (List.Mem.head _)) rfl | exact wkV_fz (b := false) (List.Mem.tail _ (List.Mem.tail _ (List.Mem.head _))) rfl | exact wkV_ow rfl rfl rfl | (refine wkV_sc (congrArg (Value.int .i64) ?_)) | ((refine wkV_cl ?_); conv => whnf) | ((refine wkV_tu ?_); conv => whnf) | ((refine wkV_ag ?_); conv => whnf) | (conv => whnf))))))
    all_goals first | rfl | trace_state
  intro k hk
  obtain rfl | rfl | rfl | rfl : k = 0 ∨ k = 1 ∨ k = 2 ∨ k = 3 := by omega
  · have hne : ((0 : Nat) : Int) = 0 := rfl
    conv => whnf
    refine And.intro (by decide) ?_
    conv => whnf
    refine And.intro (by decide) ?_
    conv => whnf
    ((first | (with_reducible refine split_dec (fun h => ?_) (fun h => ?_)) | (with_reducible refine split_beq (fun h => ?_) (fun h => ?_)) | (with_reducible refine split_bne (fun h => ?_) (fun h => ?_)) | (with_reducible refine split_not (fun h => ?_) (fun h => ?_)) | (with_reducible refine split_beqS (fun h => ?_) (fun h => ?_)) | (with_reducible refine split_intro (fun h => ?_) (fun h => ?_))) <;> conv => whnf)
    rotate_left
    · have he : 0 = home := h
      have e1 : pxR p frm up l 0 = -1 := by rw [px0, if_neg (by rw [he]; simp)]
      refine ⟨0 + 1, [], [], ⟨by omega, by omega⟩, ?_⟩
      conv => whnf
      (refine And.intro (And.intro (by with_unfolding_all rfl) (by intro q h; cases h)) ?_; refine And.intro ?_ (And.intro ?_ ?_) <;> (conv => whnf) <;> (repeat' (first | exact True.intro | (with_reducible exact rfl) | exact (rfl : List.replicate 0 PV.bad = []) | ((with_reducible refine And.intro ?_ ?_) <;> (first | (with_reducible exact wkV_same _ rfl) | exact wkV_pt rfl rfl | exact wkV_ow rfl rfl rfl | (refine wkV_ow rfl rfl ?_) | (refine wkV_sc (congrArg (Value.int .i64) ?_)) | (refine wkV_sc (congrArg Value.bool ?_)) | exact wkV_ls rfl | ((refine wkV_cl ?_); conv => whnf) | ((refine wkV_tu ?_); conv => whnf) | ((refine wkV_ag ?_); conv => whnf) | (conv => whnf))))))
      all_goals first | rfl | exact e1.symm | trace_state
    have hn : (0 : Int) ≠ home := h
    clear h
    ((first | (with_reducible refine split_dec (fun h => ?_) (fun h => ?_)) | (with_reducible refine split_beq (fun h => ?_) (fun h => ?_)) | (with_reducible refine split_bne (fun h => ?_) (fun h => ?_)) | (with_reducible refine split_not (fun h => ?_) (fun h => ?_)) | (with_reducible refine split_beqS (fun h => ?_) (fun h => ?_)) | (with_reducible refine split_intro (fun h => ?_) (fun h => ?_))) <;> conv => whnf)
    rotate_left
    · have e1 : pxR p frm up l 0 = -1 := by
        rw [px0, if_pos hn, if_neg (by simp only [List.length_map] at h; omega)]
      refine ⟨0 + 1, [], [], ⟨by omega, by omega⟩, ?_⟩
      conv => whnf
      (refine And.intro (And.intro (by with_unfolding_all rfl) (by intro q h; cases h)) ?_; refine And.intro ?_ (And.intro ?_ ?_) <;> (conv => whnf) <;> (repeat' (first | exact True.intro | (with_reducible exact rfl) | exact (rfl : List.replicate 0 PV.bad = []) | ((with_reducible refine And.intro ?_ ?_) <;> (first | (with_reducible exact wkV_same _ rfl) | exact wkV_pt rfl rfl | exact wkV_ow rfl rfl rfl | (refine wkV_ow rfl rfl ?_) | (refine wkV_sc (congrArg (Value.int .i64) ?_)) | (refine wkV_sc (congrArg Value.bool ?_)) | exact wkV_ls rfl | ((refine wkV_cl ?_); conv => whnf) | ((refine wkV_tu ?_); conv => whnf) | ((refine wkV_ag ?_); conv => whnf) | (conv => whnf))))))
      all_goals first | rfl | exact e1.symm | trace_state
    have h2 : 2 ≤ (g 0).length := by simp only [List.length_map] at h; omega
    clear h
    ((first | (with_reducible refine split_dec (fun h => ?_) (fun h => ?_)) | (with_reducible refine split_beq (fun h => ?_) (fun h => ?_)) | (with_reducible refine split_bne (fun h => ?_) (fun h => ?_)) | (with_reducible refine split_not (fun h => ?_) (fun h => ?_)) | (with_reducible refine split_beqS (fun h => ?_) (fun h => ?_)) | (with_reducible refine split_intro (fun h => ?_) (fun h => ?_))) <;> conv => whnf)
    rotate_left
    · have e1 : pxR p frm up l 0 = -1 := by
        rw [px0, if_pos hn, if_pos h2, if_neg (by simp only [List.length_map] at h; omega)]
      refine ⟨0 + 1, [], [], ⟨by omega, by omega⟩, ?_⟩
      conv => whnf
      (refine And.intro (And.intro (by with_unfolding_all rfl) (by intro q h; cases h)) ?_; refine And.intro ?_ (And.intro ?_ ?_) <;> (conv => whnf) <;> (repeat' (first | exact True.intro | (with_reducible exact rfl) | exact (rfl : List.replicate 0 PV.bad = []) | ((with_reducible refine And.intro ?_ ?_) <;> (first | (with_reducible exact wkV_same _ rfl) | exact wkV_pt rfl rfl | exact wkV_ow rfl rfl rfl | (refine wkV_ow rfl rfl ?_) | (refine wkV_sc (congrArg (Value.int .i64) ?_)) | (refine wkV_sc (congrArg Value.bool ?_)) | exact wkV_ls rfl | ((refine wkV_cl ?_); conv => whnf) | ((refine wkV_tu ?_); conv => whnf) | ((refine wkV_ag ?_); conv => whnf) | (conv => whnf))))))
      all_goals first | rfl | exact e1.symm | trace_state
    have h16 : (g 0).length ≤ 16 := by simp only [List.length_map] at h; omega
    clear h
    have e1 : pxR p frm up l 0 = bestP (regL p 0) (iand .i64 (bitsG (g 0)) up) := by rw [px0, if_pos hn, if_pos h2, if_pos h16]
    refine tri_for0 mixed (by kernel_rfl) (fun j : Nat => j ≤ (g 0).length) (fun j => [(81, iv j), (19, iv (bitsG ((g 0).take j)))]) [] (fun j => (g 0).length - j) 0 (Nat.zero_le _) ?_ ?_
    · conv => whnf
      (refine And.intro (And.intro (by with_unfolding_all rfl) (by intro q h; cases h)) ?_; refine And.intro ?_ (And.intro ?_ ?_) <;> (conv => whnf) <;> (repeat' (first | exact True.intro | (with_reducible exact rfl) | exact (rfl : List.replicate 0 PV.bad = []) | ((with_reducible refine And.intro ?_ ?_) <;> (first | (with_reducible exact wkV_same _ rfl) | exact wkV_pt rfl rfl | exact wkV_ow rfl rfl rfl | (refine wkV_ow rfl rfl ?_) | (refine wkV_sc (congrArg (Value.int .i64) ?_)) | (refine wkV_sc (congrArg Value.bool ?_)) | exact wkV_ls rfl | ((refine wkV_cl ?_); conv => whnf) | ((refine wkV_tu ?_); conv => whnf) | ((refine wkV_ag ?_); conv => whnf) | (conv => whnf))))))
      all_goals first | rfl | trace_state
    intro j hj
    conv => whnf
    ((first | (with_reducible refine split_dec (fun h => ?_) (fun h => ?_)) | (with_reducible refine split_beq (fun h => ?_) (fun h => ?_)) | (with_reducible refine split_bne (fun h => ?_) (fun h => ?_)) | (with_reducible refine split_not (fun h => ?_) (fun h => ?_)) | (with_reducible refine split_beqS (fun h => ?_) (fun h => ?_)) | (with_reducible refine split_intro (fun h => ?_) (fun h => ?_))) <;> conv => whnf)
    · have hlt : j < (g 0).length := by simp only [List.length_map] at h; omega
      clear h
      have hb := bitsG_succ hlt
      have hto1 := to0 _ (List.getElem_mem hlt) hn
      (first | ((with_reducible refine And.intro (by omega) (Exists.intro _ (And.intro (row_at hlt) ?_))); conv => whnf))
      refine And.intro (And.intro (by decide) hto1.1) ?_
      conv => whnf
      refine ⟨j + 1, ⟨by omega, by omega⟩, ?_⟩
      rw [hb]
      conv => whnf
      (refine And.intro (And.intro (by with_unfolding_all rfl) (by intro q h; cases h)) ?_; refine And.intro ?_ (And.intro ?_ ?_) <;> (conv => whnf) <;> (repeat' (first | exact True.intro | (with_reducible exact rfl) | exact (rfl : List.replicate 0 PV.bad = []) | ((with_reducible refine And.intro ?_ ?_) <;> (first | (with_reducible exact wkV_same _ rfl) | exact wkV_pt rfl rfl | exact wkV_ow rfl rfl rfl | (refine wkV_ow rfl rfl ?_) | (refine wkV_sc (congrArg (Value.int .i64) ?_)) | (refine wkV_sc (congrArg Value.bool ?_)) | exact wkV_ls rfl | ((refine wkV_cl ?_); conv => whnf) | ((refine wkV_tu ?_); conv => whnf) | ((refine wkV_ag ?_); conv => whnf) | (conv => whnf))))))
      all_goals first | exact w1 (by omega) | rfl | trace_state
    have ej : j = (g 0).length := by simp only [List.length_map] at h; omega
    subst ej
    clear h
    rw [List.take_length]
    have kp := kpx 0 (iand .i64 (bitsG (g 0)) up) (by decide)
    conv => whnf
    ((try ((refine Exists.intro none ?_); (conv => whnf))); first | ((with_reducible refine call_by (kp) ?_); conv => whnf))
    refine And.intro (by decide) ?_
    conv => whnf
    refine ⟨0 + 1, [], [], ⟨by omega, by omega⟩, ?_⟩
    conv => whnf
    (refine And.intro (And.intro (by with_unfolding_all rfl) (by intro q h; cases h)) ?_; refine And.intro ?_ (And.intro ?_ ?_) <;> (conv => whnf) <;> (repeat' (first | exact True.intro | (with_reducible exact rfl) | exact (rfl : List.replicate 0 PV.bad = []) | ((with_reducible refine And.intro ?_ ?_) <;> (first | (with_reducible exact wkV_same _ rfl) | exact wkV_pt rfl rfl | exact wkV_ow rfl rfl rfl | (refine wkV_ow rfl rfl ?_) | (refine wkV_sc (congrArg (Value.int .i64) ?_)) | (refine wkV_sc (congrArg Value.bool ?_)) | exact wkV_ls rfl | ((refine wkV_cl ?_); conv => whnf) | ((refine wkV_tu ?_); conv => whnf) | ((refine wkV_ag ?_); conv => whnf) | (conv => whnf))))))
    all_goals first | rfl | exact e1.symm | trace_state
  · have hne : ((1 : Nat) : Int) = 1 := rfl
    conv => whnf
    refine And.intro (by decide) ?_
    conv => whnf
    refine And.intro (by decide) ?_
    conv => whnf
    ((first | (with_reducible refine split_dec (fun h => ?_) (fun h => ?_)) | (with_reducible refine split_beq (fun h => ?_) (fun h => ?_)) | (with_reducible refine split_bne (fun h => ?_) (fun h => ?_)) | (with_reducible refine split_not (fun h => ?_) (fun h => ?_)) | (with_reducible refine split_beqS (fun h => ?_) (fun h => ?_)) | (with_reducible refine split_intro (fun h => ?_) (fun h => ?_))) <;> conv => whnf)
    rotate_left
    · have he : 1 = home := h
      have e1 : pxR p frm up l 1 = -1 := by rw [px1, if_neg (by rw [he]; simp)]
      refine ⟨1 + 1, [], [], ⟨by omega, by omega⟩, ?_⟩
      conv => whnf
      (refine And.intro (And.intro (by with_unfolding_all rfl) (by intro q h; cases h)) ?_; refine And.intro ?_ (And.intro ?_ ?_) <;> (conv => whnf) <;> (repeat' (first | exact True.intro | (with_reducible exact rfl) | exact (rfl : List.replicate 0 PV.bad = []) | ((with_reducible refine And.intro ?_ ?_) <;> (first | (with_reducible exact wkV_same _ rfl) | exact wkV_pt rfl rfl | exact wkV_ow rfl rfl rfl | (refine wkV_ow rfl rfl ?_) | (refine wkV_sc (congrArg (Value.int .i64) ?_)) | (refine wkV_sc (congrArg Value.bool ?_)) | exact wkV_ls rfl | ((refine wkV_cl ?_); conv => whnf) | ((refine wkV_tu ?_); conv => whnf) | ((refine wkV_ag ?_); conv => whnf) | (conv => whnf))))))
      all_goals first | rfl | exact e1.symm | trace_state
    have hn : (1 : Int) ≠ home := h
    clear h
    ((first | (with_reducible refine split_dec (fun h => ?_) (fun h => ?_)) | (with_reducible refine split_beq (fun h => ?_) (fun h => ?_)) | (with_reducible refine split_bne (fun h => ?_) (fun h => ?_)) | (with_reducible refine split_not (fun h => ?_) (fun h => ?_)) | (with_reducible refine split_beqS (fun h => ?_) (fun h => ?_)) | (with_reducible refine split_intro (fun h => ?_) (fun h => ?_))) <;> conv => whnf)
    rotate_left
    · have e1 : pxR p frm up l 1 = -1 := by
        rw [px1, if_pos hn, if_neg (by simp only [List.length_map] at h; omega)]
      refine ⟨1 + 1, [], [], ⟨by omega, by omega⟩, ?_⟩
      conv => whnf
      (refine And.intro (And.intro (by with_unfolding_all rfl) (by intro q h; cases h)) ?_; refine And.intro ?_ (And.intro ?_ ?_) <;> (conv => whnf) <;> (repeat' (first | exact True.intro | (with_reducible exact rfl) | exact (rfl : List.replicate 0 PV.bad = []) | ((with_reducible refine And.intro ?_ ?_) <;> (first | (with_reducible exact wkV_same _ rfl) | exact wkV_pt rfl rfl | exact wkV_ow rfl rfl rfl | (refine wkV_ow rfl rfl ?_) | (refine wkV_sc (congrArg (Value.int .i64) ?_)) | (refine wkV_sc (congrArg Value.bool ?_)) | exact wkV_ls rfl | ((refine wkV_cl ?_); conv => whnf) | ((refine wkV_tu ?_); conv => whnf) | ((refine wkV_ag ?_); conv => whnf) | (conv => whnf))))))
      all_goals first | rfl | exact e1.symm | trace_state
    have h2 : 2 ≤ (g 1).length := by simp only [List.length_map] at h; omega
    clear h
    ((first | (with_reducible refine split_dec (fun h => ?_) (fun h => ?_)) | (with_reducible refine split_beq (fun h => ?_) (fun h => ?_)) | (with_reducible refine split_bne (fun h => ?_) (fun h => ?_)) | (with_reducible refine split_not (fun h => ?_) (fun h => ?_)) | (with_reducible refine split_beqS (fun h => ?_) (fun h => ?_)) | (with_reducible refine split_intro (fun h => ?_) (fun h => ?_))) <;> conv => whnf)
    rotate_left
    · have e1 : pxR p frm up l 1 = -1 := by
        rw [px1, if_pos hn, if_pos h2, if_neg (by simp only [List.length_map] at h; omega)]
      refine ⟨1 + 1, [], [], ⟨by omega, by omega⟩, ?_⟩
      conv => whnf
      (refine And.intro (And.intro (by with_unfolding_all rfl) (by intro q h; cases h)) ?_; refine And.intro ?_ (And.intro ?_ ?_) <;> (conv => whnf) <;> (repeat' (first | exact True.intro | (with_reducible exact rfl) | exact (rfl : List.replicate 0 PV.bad = []) | ((with_reducible refine And.intro ?_ ?_) <;> (first | (with_reducible exact wkV_same _ rfl) | exact wkV_pt rfl rfl | exact wkV_ow rfl rfl rfl | (refine wkV_ow rfl rfl ?_) | (refine wkV_sc (congrArg (Value.int .i64) ?_)) | (refine wkV_sc (congrArg Value.bool ?_)) | exact wkV_ls rfl | ((refine wkV_cl ?_); conv => whnf) | ((refine wkV_tu ?_); conv => whnf) | ((refine wkV_ag ?_); conv => whnf) | (conv => whnf))))))
      all_goals first | rfl | exact e1.symm | trace_state
    have h16 : (g 1).length ≤ 16 := by simp only [List.length_map] at h; omega
    clear h
    have e1 : pxR p frm up l 1 = bestP (regL p 1) (iand .i64 (bitsG (g 1)) up) := by rw [px1, if_pos hn, if_pos h2, if_pos h16]
    refine tri_for0 mixed (by kernel_rfl) (fun j : Nat => j ≤ (g 1).length) (fun j => [(81, iv j), (19, iv (bitsG ((g 1).take j)))]) [] (fun j => (g 1).length - j) 0 (Nat.zero_le _) ?_ ?_
    · conv => whnf
      (refine And.intro (And.intro (by with_unfolding_all rfl) (by intro q h; cases h)) ?_; refine And.intro ?_ (And.intro ?_ ?_) <;> (conv => whnf) <;> (repeat' (first | exact True.intro | (with_reducible exact rfl) | exact (rfl : List.replicate 0 PV.bad = []) | ((with_reducible refine And.intro ?_ ?_) <;> (first | (with_reducible exact wkV_same _ rfl) | exact wkV_pt rfl rfl | exact wkV_ow rfl rfl rfl | (refine wkV_ow rfl rfl ?_) | (refine wkV_sc (congrArg (Value.int .i64) ?_)) | (refine wkV_sc (congrArg Value.bool ?_)) | exact wkV_ls rfl | ((refine wkV_cl ?_); conv => whnf) | ((refine wkV_tu ?_); conv => whnf) | ((refine wkV_ag ?_); conv => whnf) | (conv => whnf))))))
      all_goals first | rfl | trace_state
    intro j hj
    conv => whnf
    ((first | (with_reducible refine split_dec (fun h => ?_) (fun h => ?_)) | (with_reducible refine split_beq (fun h => ?_) (fun h => ?_)) | (with_reducible refine split_bne (fun h => ?_) (fun h => ?_)) | (with_reducible refine split_not (fun h => ?_) (fun h => ?_)) | (with_reducible refine split_beqS (fun h => ?_) (fun h => ?_)) | (with_reducible refine split_intro (fun h => ?_) (fun h => ?_))) <;> conv => whnf)
    · have hlt : j < (g 1).length := by simp only [List.length_map] at h; omega
      clear h
      have hb := bitsG_succ hlt
      have hto1 := to1 _ (List.getElem_mem hlt) hn
      (first | ((with_reducible refine And.intro (by omega) (Exists.intro _ (And.intro (row_at hlt) ?_))); conv => whnf))
      refine And.intro (And.intro (by decide) hto1.1) ?_
      conv => whnf
      refine ⟨j + 1, ⟨by omega, by omega⟩, ?_⟩
      rw [hb]
      conv => whnf
      (refine And.intro (And.intro (by with_unfolding_all rfl) (by intro q h; cases h)) ?_; refine And.intro ?_ (And.intro ?_ ?_) <;> (conv => whnf) <;> (repeat' (first | exact True.intro | (with_reducible exact rfl) | exact (rfl : List.replicate 0 PV.bad = []) | ((with_reducible refine And.intro ?_ ?_) <;> (first | (with_reducible exact wkV_same _ rfl) | exact wkV_pt rfl rfl | exact wkV_ow rfl rfl rfl | (refine wkV_ow rfl rfl ?_) | (refine wkV_sc (congrArg (Value.int .i64) ?_)) | (refine wkV_sc (congrArg Value.bool ?_)) | exact wkV_ls rfl | ((refine wkV_cl ?_); conv => whnf) | ((refine wkV_tu ?_); conv => whnf) | ((refine wkV_ag ?_); conv => whnf) | (conv => whnf))))))
      all_goals first | exact w1 (by omega) | rfl | trace_state
    have ej : j = (g 1).length := by simp only [List.length_map] at h; omega
    subst ej
    clear h
    rw [List.take_length]
    have kp := kpx 1 (iand .i64 (bitsG (g 1)) up) (by decide)
    conv => whnf
    ((try ((refine Exists.intro none ?_); (conv => whnf))); first | ((with_reducible refine call_by (kp) ?_); conv => whnf))
    refine And.intro (by decide) ?_
    conv => whnf
    refine ⟨1 + 1, [], [], ⟨by omega, by omega⟩, ?_⟩
    conv => whnf
    (refine And.intro (And.intro (by with_unfolding_all rfl) (by intro q h; cases h)) ?_; refine And.intro ?_ (And.intro ?_ ?_) <;> (conv => whnf) <;> (repeat' (first | exact True.intro | (with_reducible exact rfl) | exact (rfl : List.replicate 0 PV.bad = []) | ((with_reducible refine And.intro ?_ ?_) <;> (first | (with_reducible exact wkV_same _ rfl) | exact wkV_pt rfl rfl | exact wkV_ow rfl rfl rfl | (refine wkV_ow rfl rfl ?_) | (refine wkV_sc (congrArg (Value.int .i64) ?_)) | (refine wkV_sc (congrArg Value.bool ?_)) | exact wkV_ls rfl | ((refine wkV_cl ?_); conv => whnf) | ((refine wkV_tu ?_); conv => whnf) | ((refine wkV_ag ?_); conv => whnf) | (conv => whnf))))))
    all_goals first | rfl | exact e1.symm | trace_state
  · have hne : ((2 : Nat) : Int) = 2 := rfl
    conv => whnf
    refine And.intro (by decide) ?_
    conv => whnf
    refine And.intro (by decide) ?_
    conv => whnf
    ((first | (with_reducible refine split_dec (fun h => ?_) (fun h => ?_)) | (with_reducible refine split_beq (fun h => ?_) (fun h => ?_)) | (with_reducible refine split_bne (fun h => ?_) (fun h => ?_)) | (with_reducible refine split_not (fun h => ?_) (fun h => ?_)) | (with_reducible refine split_beqS (fun h => ?_) (fun h => ?_)) | (with_reducible refine split_intro (fun h => ?_) (fun h => ?_))) <;> conv => whnf)
    rotate_left
    · have he : 2 = home := h
      have e1 : pxR p frm up l 2 = -1 := by rw [px2, if_neg (by rw [he]; simp)]
      refine ⟨2 + 1, [], [], ⟨by omega, by omega⟩, ?_⟩
      conv => whnf
      (refine And.intro (And.intro (by with_unfolding_all rfl) (by intro q h; cases h)) ?_; refine And.intro ?_ (And.intro ?_ ?_) <;> (conv => whnf) <;> (repeat' (first | exact True.intro | (with_reducible exact rfl) | exact (rfl : List.replicate 0 PV.bad = []) | ((with_reducible refine And.intro ?_ ?_) <;> (first | (with_reducible exact wkV_same _ rfl) | exact wkV_pt rfl rfl | exact wkV_ow rfl rfl rfl | (refine wkV_ow rfl rfl ?_) | (refine wkV_sc (congrArg (Value.int .i64) ?_)) | (refine wkV_sc (congrArg Value.bool ?_)) | exact wkV_ls rfl | ((refine wkV_cl ?_); conv => whnf) | ((refine wkV_tu ?_); conv => whnf) | ((refine wkV_ag ?_); conv => whnf) | (conv => whnf))))))
      all_goals first | rfl | exact e1.symm | trace_state
    have hn : (2 : Int) ≠ home := h
    clear h
    ((first | (with_reducible refine split_dec (fun h => ?_) (fun h => ?_)) | (with_reducible refine split_beq (fun h => ?_) (fun h => ?_)) | (with_reducible refine split_bne (fun h => ?_) (fun h => ?_)) | (with_reducible refine split_not (fun h => ?_) (fun h => ?_)) | (with_reducible refine split_beqS (fun h => ?_) (fun h => ?_)) | (with_reducible refine split_intro (fun h => ?_) (fun h => ?_))) <;> conv => whnf)
    rotate_left
    · have e1 : pxR p frm up l 2 = -1 := by
        rw [px2, if_pos hn, if_neg (by simp only [List.length_map] at h; omega)]
      refine ⟨2 + 1, [], [], ⟨by omega, by omega⟩, ?_⟩
      conv => whnf
      (refine And.intro (And.intro (by with_unfolding_all rfl) (by intro q h; cases h)) ?_; refine And.intro ?_ (And.intro ?_ ?_) <;> (conv => whnf) <;> (repeat' (first | exact True.intro | (with_reducible exact rfl) | exact (rfl : List.replicate 0 PV.bad = []) | ((with_reducible refine And.intro ?_ ?_) <;> (first | (with_reducible exact wkV_same _ rfl) | exact wkV_pt rfl rfl | exact wkV_ow rfl rfl rfl | (refine wkV_ow rfl rfl ?_) | (refine wkV_sc (congrArg (Value.int .i64) ?_)) | (refine wkV_sc (congrArg Value.bool ?_)) | exact wkV_ls rfl | ((refine wkV_cl ?_); conv => whnf) | ((refine wkV_tu ?_); conv => whnf) | ((refine wkV_ag ?_); conv => whnf) | (conv => whnf))))))
      all_goals first | rfl | exact e1.symm | trace_state
    have h2 : 2 ≤ (g 2).length := by simp only [List.length_map] at h; omega
    clear h
    ((first | (with_reducible refine split_dec (fun h => ?_) (fun h => ?_)) | (with_reducible refine split_beq (fun h => ?_) (fun h => ?_)) | (with_reducible refine split_bne (fun h => ?_) (fun h => ?_)) | (with_reducible refine split_not (fun h => ?_) (fun h => ?_)) | (with_reducible refine split_beqS (fun h => ?_) (fun h => ?_)) | (with_reducible refine split_intro (fun h => ?_) (fun h => ?_))) <;> conv => whnf)
    rotate_left
    · have e1 : pxR p frm up l 2 = -1 := by
        rw [px2, if_pos hn, if_pos h2, if_neg (by simp only [List.length_map] at h; omega)]
      refine ⟨2 + 1, [], [], ⟨by omega, by omega⟩, ?_⟩
      conv => whnf
      (refine And.intro (And.intro (by with_unfolding_all rfl) (by intro q h; cases h)) ?_; refine And.intro ?_ (And.intro ?_ ?_) <;> (conv => whnf) <;> (repeat' (first | exact True.intro | (with_reducible exact rfl) | exact (rfl : List.replicate 0 PV.bad = []) | ((with_reducible refine And.intro ?_ ?_) <;> (first | (with_reducible exact wkV_same _ rfl) | exact wkV_pt rfl rfl | exact wkV_ow rfl rfl rfl | (refine wkV_ow rfl rfl ?_) | (refine wkV_sc (congrArg (Value.int .i64) ?_)) | (refine wkV_sc (congrArg Value.bool ?_)) | exact wkV_ls rfl | ((refine wkV_cl ?_); conv => whnf) | ((refine wkV_tu ?_); conv => whnf) | ((refine wkV_ag ?_); conv => whnf) | (conv => whnf))))))
      all_goals first | rfl | exact e1.symm | trace_state
    have h16 : (g 2).length ≤ 16 := by simp only [List.length_map] at h; omega
    clear h
    have e1 : pxR p frm up l 2 = bestP (regL p 2) (iand .i64 (bitsG (g 2)) up) := by rw [px2, if_pos hn, if_pos h2, if_pos h16]
    refine tri_for0 mixed (by kernel_rfl) (fun j : Nat => j ≤ (g 2).length) (fun j => [(81, iv j), (19, iv (bitsG ((g 2).take j)))]) [] (fun j => (g 2).length - j) 0 (Nat.zero_le _) ?_ ?_
    · conv => whnf
      (refine And.intro (And.intro (by with_unfolding_all rfl) (by intro q h; cases h)) ?_; refine And.intro ?_ (And.intro ?_ ?_) <;> (conv => whnf) <;> (repeat' (first | exact True.intro | (with_reducible exact rfl) | exact (rfl : List.replicate 0 PV.bad = []) | ((with_reducible refine And.intro ?_ ?_) <;> (first | (with_reducible exact wkV_same _ rfl) | exact wkV_pt rfl rfl | exact wkV_ow rfl rfl rfl | (refine wkV_ow rfl rfl ?_) | (refine wkV_sc (congrArg (Value.int .i64) ?_)) | (refine wkV_sc (congrArg Value.bool ?_)) | exact wkV_ls rfl | ((refine wkV_cl ?_); conv => whnf) | ((refine wkV_tu ?_); conv => whnf) | ((refine wkV_ag ?_); conv => whnf) | (conv => whnf))))))
      all_goals first | rfl | trace_state
    intro j hj
    conv => whnf
    ((first | (with_reducible refine split_dec (fun h => ?_) (fun h => ?_)) | (with_reducible refine split_beq (fun h => ?_) (fun h => ?_)) | (with_reducible refine split_bne (fun h => ?_) (fun h => ?_)) | (with_reducible refine split_not (fun h => ?_) (fun h => ?_)) | (with_reducible refine split_beqS (fun h => ?_) (fun h => ?_)) | (with_reducible refine split_intro (fun h => ?_) (fun h => ?_))) <;> conv => whnf)
    · have hlt : j < (g 2).length := by simp only [List.length_map] at h; omega
      clear h
      have hb := bitsG_succ hlt
      have hto1 := to2 _ (List.getElem_mem hlt) hn
      (first | ((with_reducible refine And.intro (by omega) (Exists.intro _ (And.intro (row_at hlt) ?_))); conv => whnf))
      refine And.intro (And.intro (by decide) hto1.1) ?_
      conv => whnf
      refine ⟨j + 1, ⟨by omega, by omega⟩, ?_⟩
      rw [hb]
      conv => whnf
      (refine And.intro (And.intro (by with_unfolding_all rfl) (by intro q h; cases h)) ?_; refine And.intro ?_ (And.intro ?_ ?_) <;> (conv => whnf) <;> (repeat' (first | exact True.intro | (with_reducible exact rfl) | exact (rfl : List.replicate 0 PV.bad = []) | ((with_reducible refine And.intro ?_ ?_) <;> (first | (with_reducible exact wkV_same _ rfl) | exact wkV_pt rfl rfl | exact wkV_ow rfl rfl rfl | (refine wkV_ow rfl rfl ?_) | (refine wkV_sc (congrArg (Value.int .i64) ?_)) | (refine wkV_sc (congrArg Value.bool ?_)) | exact wkV_ls rfl | ((refine wkV_cl ?_); conv => whnf) | ((refine wkV_tu ?_); conv => whnf) | ((refine wkV_ag ?_); conv => whnf) | (conv => whnf))))))
      all_goals first | exact w1 (by omega) | rfl | trace_state
    have ej : j = (g 2).length := by simp only [List.length_map] at h; omega
    subst ej
    clear h
    rw [List.take_length]
    have kp := kpx 2 (iand .i64 (bitsG (g 2)) up) (by decide)
    conv => whnf
    ((try ((refine Exists.intro none ?_); (conv => whnf))); first | ((with_reducible refine call_by (kp) ?_); conv => whnf))
    refine And.intro (by decide) ?_
    conv => whnf
    refine ⟨2 + 1, [], [], ⟨by omega, by omega⟩, ?_⟩
    conv => whnf
    (refine And.intro (And.intro (by with_unfolding_all rfl) (by intro q h; cases h)) ?_; refine And.intro ?_ (And.intro ?_ ?_) <;> (conv => whnf) <;> (repeat' (first | exact True.intro | (with_reducible exact rfl) | exact (rfl : List.replicate 0 PV.bad = []) | ((with_reducible refine And.intro ?_ ?_) <;> (first | (with_reducible exact wkV_same _ rfl) | exact wkV_pt rfl rfl | exact wkV_ow rfl rfl rfl | (refine wkV_ow rfl rfl ?_) | (refine wkV_sc (congrArg (Value.int .i64) ?_)) | (refine wkV_sc (congrArg Value.bool ?_)) | exact wkV_ls rfl | ((refine wkV_cl ?_); conv => whnf) | ((refine wkV_tu ?_); conv => whnf) | ((refine wkV_ag ?_); conv => whnf) | (conv => whnf))))))
    all_goals first | rfl | exact e1.symm | trace_state
  conv => whnf
  refine tri_born 22 1020 16 rfl rfl ?_
  conv => whnf
  have hgmem : ∀ r m, m ∈ l → rgM p frm home m = r → (g r).map Mg.enc ≠ [] := fun r m hm hr he => by
    have h1 : m ∈ g r := hmg r m hm hr
    rw [List.map_eq_nil_iff] at he
    rw [he] at h1; cases h1
  have ktw : ∀ r, Ctr Try.prog 74 [.sl 16 ((g r).map Mg.enc)] (.sl 16 ((g r).map Mg.enc)) [] := fun r => by
    have hr := hgl r
    refine c_twinsS _ (by rw [List.length_map]; omega) (fun row hrow => ?_)
    obtain ⟨m, hm, rfl⟩ := List.mem_map.1 hrow
    rw [← hgg] at hm
    exact ⟨hms m (List.mem_filter.1 hm).1, m, rfl⟩
  generalize hq : pxR p frm up l = q at *
  generalize hsn : sentR p frm up l = sn at *
  generalize hou : outR p frm up l = ou at *
  generalize hem : emitR p frm up l = em at *
  refine tri_forO mixed (by kernel_rfl) (fun b : Nat × Bool × Bool × Bool => b.1 ≤ l.length ∧ b.2.1 = sn 0 b.1 ∧ b.2.2.1 = sn 1 b.1 ∧ b.2.2.2 = sn 2 b.1) (fun b => [(105, iv b.1), (22, .ow 1020 0 (ou b.1).length)])
    (fun b => [(5, [.sl 4 (p.map Pl.enc)]), (6, [iv frm]), (11, [iv home]), (12, [nlc b.2.1 ((g 0).map Mg.enc), nlc b.2.2.1 ((g 1).map Mg.enc), nlc b.2.2.2 ((g 2).map Mg.enc)]), (16, [iv (q 0), iv (q 1), iv (q 2)])])
    (fun b => [(1020, some (false, 16, ou b.1))]) [(1020, 1020)] (fun b => l.length - b.1) (0, false, false, false) ⟨Nat.zero_le _, (hs0 0).symm, (hs0 1).symm, (hs0 2).symm⟩ ?_ ?_
  · rw [ho0]
    conv => whnf
    (refine And.intro (And.intro (by with_unfolding_all rfl) (by intro q h; cases h)) ?_; refine And.intro ?_ (And.intro ?_ ?_) <;> (conv => whnf) <;> (repeat' (first | exact True.intro | (with_reducible exact rfl) | exact (rfl : List.replicate 0 PV.bad = []) | ((with_reducible refine And.intro ?_ ?_) <;> (first | (with_reducible exact wkV_same _ rfl) | exact wkV_pt rfl rfl | exact wkV_ow rfl rfl rfl | (refine wkV_ow rfl rfl ?_) | (refine wkV_sc (congrArg (Value.int .i64) ?_)) | (refine wkV_sc (congrArg Value.bool ?_)) | exact wkV_ls rfl | ((refine wkV_cl ?_); conv => whnf) | ((refine wkV_tu ?_); conv => whnf) | ((refine wkV_ag ?_); conv => whnf) | (conv => whnf))))))
    all_goals first | rfl | exact Or.inl rfl | trace_state
  rintro ⟨i, d0, d1, d2⟩ ⟨hi, f0, f1, f2⟩
  simp only at hi f0 f1 f2
  have hon := hol i
  conv => whnf
  ((first | (with_reducible refine split_dec (fun h => ?_) (fun h => ?_)) | (with_reducible refine split_beq (fun h => ?_) (fun h => ?_)) | (with_reducible refine split_bne (fun h => ?_) (fun h => ?_)) | (with_reducible refine split_not (fun h => ?_) (fun h => ?_)) | (with_reducible refine split_beqS (fun h => ?_) (fun h => ?_)) | (with_reducible refine split_intro (fun h => ?_) (fun h => ?_))) <;> conv => whnf)
  · have hlt : i < l.length := by simp only [List.length_map] at h; omega
    clear h
    have hmem := List.getElem_mem hlt
    have km := kreg (l[i]'hlt)
    have hc := hms _ hmem
    have hem1 := hemit i (l[i]'hlt)
    have hos1 := hos i hlt
    have s0 := hss i hlt 0
    have s1 := hss i hlt 1
    have s2 := hss i hlt 2
    have hgm := fun r => hgmem r _ hmem
    (first | ((with_reducible refine And.intro (by omega) (Exists.intro _ (And.intro (row_at hlt) ?_))); conv => whnf))
    rcases hrg (l[i]'hlt) with hr | hr | hr
    · rw [hr] at km hem1 hgm
      have e1 : sn 1 (i + 1) = sn 1 i := by rw [s1, hr, decide_eq_false (show ¬ ((0 : Int) = 1) by decide), Bool.and_false, Bool.or_false]
      have e2 : sn 2 (i + 1) = sn 2 i := by rw [s2, hr, decide_eq_false (show ¬ ((0 : Int) = 2) by decide), Bool.and_false, Bool.or_false]
      have hgr := hgm 0 rfl
      ((try ((refine Exists.intro none ?_); (conv => whnf))); first | ((with_reducible refine call_by (km) ?_); conv => whnf))
      refine And.intro (by decide) ?_
      conv => whnf
      ((first | (with_reducible refine split_dec (fun h => ?_) (fun h => ?_)) | (with_reducible refine split_beq (fun h => ?_) (fun h => ?_)) | (with_reducible refine split_bne (fun h => ?_) (fun h => ?_)) | (with_reducible refine split_not (fun h => ?_) (fun h => ?_)) | (with_reducible refine split_beqS (fun h => ?_) (fun h => ?_)) | (with_reducible refine split_intro (fun h => ?_) (fun h => ?_))) <;> conv => whnf)
      · have hp : q 0 < 0 := h
        have e0 : sn 0 (i + 1) = sn 0 i := by rw [s0, decide_eq_false (show ¬ 0 ≤ q 0 by omega), Bool.false_and, Bool.or_false]
        rw [if_pos hp] at hem1
        rw [hem1] at hos1
        ((try ((refine Exists.intro none ?_); (conv => whnf))); first | ((with_reducible refine call_by (hc) ?_); conv => whnf))
        (refine Exists.intro _ (And.intro rfl (And.intro (by intro q _; simp only [List.length_nil]; omega) (And.intro (by intro i hi; exact absurd hi (Nat.not_lt_zero i)) ?_))); conv => whnf)
        have b1 : ((ou i).length + 1) * 176 ≤ 140737488355328 := by omega
        have b2 : (ou i).length + 1 ≤ maxLen := leMax (by omega)
        (refine And.intro rfl ?_; (conv => whnf); refine And.intro (And.intro (And.intro (by kernel_rfl) (And.intro (Nat.le_refl _) (And.intro (b1) (And.intro (b2) (by intro r hr; rw [List.mem_singleton.1 hr]; rfl))))) (And.intro (by decide) rfl)) ?_; conv => whnf)
        refine ⟨(i + 1, d0, d1, d2), [(1020, 1936)], ⟨⟨by show i + 1 ≤ _; omega, by rw [e0]; exact f0, by rw [e1]; exact f1, by rw [e2]; exact f2⟩, by show l.length - (i + 1) < l.length - i; omega⟩, ?_⟩
        simp only [hos1]
        cases d0 <;> cases d1 <;> cases d2
        all_goals (conv => whnf)
        all_goals (refine And.intro (And.intro (by with_unfolding_all rfl) (by intro q h; cases h)) ?_; refine And.intro ?_ (And.intro ?_ ?_) <;> (conv => whnf) <;> (repeat' (first | exact True.intro | (with_reducible exact rfl) | exact (rfl : List.replicate 0 PV.bad = []) | ((with_reducible refine And.intro ?_ ?_) <;> (first | (with_reducible exact wkV_same _ rfl) | exact wkV_pt rfl rfl | exact wkV_ow rfl rfl rfl | (refine wkV_ow rfl rfl ?_) | (refine wkV_sc (congrArg (Value.int .i64) ?_)) | (refine wkV_sc (congrArg Value.bool ?_)) | exact wkV_ls rfl | ((refine wkV_cl ?_); conv => whnf) | ((refine wkV_tu ?_); conv => whnf) | ((refine wkV_ag ?_); conv => whnf) | (conv => whnf))))))
        all_goals first | exact Or.inl rfl | exact w1 (by omega) | (refine obj_eq (by kernel_rfl) ?_; rw [List.take_of_length_le (Nat.le_refl _)]; done) | (refine obj_eq (by kernel_rfl) ?_; rw [List.take_of_length_le (Nat.le_refl _)]; rfl) | (rw [List.length_append]; done) | (rw [List.length_append]; rfl) | rfl | trace_state
      · have hp : ¬ q 0 < 0 := h
        clear h
        rw [if_neg hp] at hem1
        have e0 : sn 0 (i + 1) = true := by rw [s0, hr, decide_eq_true (show 0 ≤ q 0 by omega), decide_eq_true rfl, Bool.true_and, Bool.or_true]
        refine And.intro (by decide) ?_
        conv => whnf
        cases d0 with
        | true =>
          rw [← f0, if_pos rfl] at hem1
          rw [hem1, List.append_nil] at hos1
          conv => whnf
          refine ⟨(i + 1, true, d1, d2), [(1020, 1020)], ⟨⟨by show i + 1 ≤ _; omega, e0.symm, by rw [e1]; exact f1, by rw [e2]; exact f2⟩, by show l.length - (i + 1) < l.length - i; omega⟩, ?_⟩
          simp only [hos1]
          cases d1 <;> cases d2
          all_goals (conv => whnf)
          all_goals (refine And.intro (And.intro (by with_unfolding_all rfl) (by intro q h; cases h)) ?_; refine And.intro ?_ (And.intro ?_ ?_) <;> (conv => whnf) <;> (repeat' (first | exact True.intro | (with_reducible exact rfl) | exact (rfl : List.replicate 0 PV.bad = []) | ((with_reducible refine And.intro ?_ ?_) <;> (first | (with_reducible exact wkV_same _ rfl) | exact wkV_pt rfl rfl | exact wkV_ow rfl rfl rfl | (refine wkV_ow rfl rfl ?_) | (refine wkV_sc (congrArg (Value.int .i64) ?_)) | (refine wkV_sc (congrArg Value.bool ?_)) | exact wkV_ls rfl | ((refine wkV_cl ?_); conv => whnf) | ((refine wkV_tu ?_); conv => whnf) | ((refine wkV_ag ?_); conv => whnf) | (conv => whnf))))))
          all_goals first | exact Or.inl rfl | exact w1 (by omega) | (refine obj_eq (by kernel_rfl) ?_; rw [List.take_of_length_le (Nat.le_refl _)]; done) | (refine obj_eq (by kernel_rfl) ?_; rw [List.take_of_length_le (Nat.le_refl _)]; rfl) | (rw [List.length_append]; done) | (rw [List.length_append]; rfl) | rfl | trace_state
        | false =>
          rw [← f0, if_neg (by decide)] at hem1
          rw [hem1] at hos1
          conv => whnf
          refine And.intro hgr ?_
          conv => whnf
          refine And.intro (by decide) ?_
          conv => whnf
          refine And.intro (by decide) ?_
          conv => whnf
          ((try ((refine Exists.intro none ?_); (conv => whnf))); first | ((with_reducible refine call_by (ktw 0) ?_); conv => whnf))
          (refine Exists.intro _ (And.intro rfl (And.intro (by intro q _; simp only [List.length_nil]; omega) (And.intro (by intro i hi; exact absurd hi (Nat.not_lt_zero i)) ?_))); conv => whnf)
          have b1 : ((ou i).length + 1) * 176 ≤ 140737488355328 := by omega
          have b2 : (ou i).length + 1 ≤ maxLen := leMax (by omega)
          (refine And.intro rfl ?_; (conv => whnf); refine And.intro (And.intro (And.intro (by kernel_rfl) (And.intro (Nat.le_refl _) (And.intro (b1) (And.intro (b2) (by intro r hr; rw [List.mem_singleton.1 hr]; rfl))))) (And.intro (by decide) rfl)) ?_; conv => whnf)
          refine And.intro (by decide) ?_
          conv => whnf
          refine ⟨(i + 1, true, d1, d2), [(1020, 2208)], ⟨⟨by show i + 1 ≤ _; omega, e0.symm, by rw [e1]; exact f1, by rw [e2]; exact f2⟩, by show l.length - (i + 1) < l.length - i; omega⟩, ?_⟩
          simp only [hos1]
          cases d1 <;> cases d2
          all_goals (conv => whnf)
          all_goals (refine And.intro (And.intro (by with_unfolding_all rfl) (by intro q h; cases h)) ?_; refine And.intro ?_ (And.intro ?_ ?_) <;> (conv => whnf) <;> (repeat' (first | exact True.intro | (with_reducible exact rfl) | exact (rfl : List.replicate 0 PV.bad = []) | ((with_reducible refine And.intro ?_ ?_) <;> (first | (with_reducible exact wkV_same _ rfl) | exact wkV_pt rfl rfl | exact wkV_ow rfl rfl rfl | (refine wkV_ow rfl rfl ?_) | (refine wkV_sc (congrArg (Value.int .i64) ?_)) | (refine wkV_sc (congrArg Value.bool ?_)) | exact wkV_ls rfl | ((refine wkV_cl ?_); conv => whnf) | ((refine wkV_tu ?_); conv => whnf) | ((refine wkV_ag ?_); conv => whnf) | (conv => whnf))))))
          all_goals first | exact Or.inl rfl | exact w1 (by omega) | (refine obj_eq (by kernel_rfl) ?_; rw [List.take_of_length_le (Nat.le_refl _)]; done) | (refine obj_eq (by kernel_rfl) ?_; rw [List.take_of_length_le (Nat.le_refl _)]; rfl) | (rw [List.length_append]; done) | (rw [List.length_append]; rfl) | rfl | trace_state
    · rw [hr] at km hem1 hgm
      have e0 : sn 0 (i + 1) = sn 0 i := by rw [s0, hr, decide_eq_false (show ¬ ((1 : Int) = 0) by decide), Bool.and_false, Bool.or_false]
      have e2 : sn 2 (i + 1) = sn 2 i := by rw [s2, hr, decide_eq_false (show ¬ ((1 : Int) = 2) by decide), Bool.and_false, Bool.or_false]
      have hgr := hgm 1 rfl
      ((try ((refine Exists.intro none ?_); (conv => whnf))); first | ((with_reducible refine call_by (km) ?_); conv => whnf))
      refine And.intro (by decide) ?_
      conv => whnf
      ((first | (with_reducible refine split_dec (fun h => ?_) (fun h => ?_)) | (with_reducible refine split_beq (fun h => ?_) (fun h => ?_)) | (with_reducible refine split_bne (fun h => ?_) (fun h => ?_)) | (with_reducible refine split_not (fun h => ?_) (fun h => ?_)) | (with_reducible refine split_beqS (fun h => ?_) (fun h => ?_)) | (with_reducible refine split_intro (fun h => ?_) (fun h => ?_))) <;> conv => whnf)
      · have hp : q 1 < 0 := h
        have e1 : sn 1 (i + 1) = sn 1 i := by rw [s1, decide_eq_false (show ¬ 0 ≤ q 1 by omega), Bool.false_and, Bool.or_false]
        rw [if_pos hp] at hem1
        rw [hem1] at hos1
        ((try ((refine Exists.intro none ?_); (conv => whnf))); first | ((with_reducible refine call_by (hc) ?_); conv => whnf))
        (refine Exists.intro _ (And.intro rfl (And.intro (by intro q _; simp only [List.length_nil]; omega) (And.intro (by intro i hi; exact absurd hi (Nat.not_lt_zero i)) ?_))); conv => whnf)
        have b1 : ((ou i).length + 1) * 176 ≤ 140737488355328 := by omega
        have b2 : (ou i).length + 1 ≤ maxLen := leMax (by omega)
        (refine And.intro rfl ?_; (conv => whnf); refine And.intro (And.intro (And.intro (by kernel_rfl) (And.intro (Nat.le_refl _) (And.intro (b1) (And.intro (b2) (by intro r hr; rw [List.mem_singleton.1 hr]; rfl))))) (And.intro (by decide) rfl)) ?_; conv => whnf)
        refine ⟨(i + 1, d0, d1, d2), [(1020, 1936)], ⟨⟨by show i + 1 ≤ _; omega, by rw [e0]; exact f0, by rw [e1]; exact f1, by rw [e2]; exact f2⟩, by show l.length - (i + 1) < l.length - i; omega⟩, ?_⟩
        simp only [hos1]
        cases d0 <;> cases d1 <;> cases d2
        all_goals (conv => whnf)
        all_goals (refine And.intro (And.intro (by with_unfolding_all rfl) (by intro q h; cases h)) ?_; refine And.intro ?_ (And.intro ?_ ?_) <;> (conv => whnf) <;> (repeat' (first | exact True.intro | (with_reducible exact rfl) | exact (rfl : List.replicate 0 PV.bad = []) | ((with_reducible refine And.intro ?_ ?_) <;> (first | (with_reducible exact wkV_same _ rfl) | exact wkV_pt rfl rfl | exact wkV_ow rfl rfl rfl | (refine wkV_ow rfl rfl ?_) | (refine wkV_sc (congrArg (Value.int .i64) ?_)) | (refine wkV_sc (congrArg Value.bool ?_)) | exact wkV_ls rfl | ((refine wkV_cl ?_); conv => whnf) | ((refine wkV_tu ?_); conv => whnf) | ((refine wkV_ag ?_); conv => whnf) | (conv => whnf))))))
        all_goals first | exact Or.inl rfl | exact w1 (by omega) | (refine obj_eq (by kernel_rfl) ?_; rw [List.take_of_length_le (Nat.le_refl _)]; done) | (refine obj_eq (by kernel_rfl) ?_; rw [List.take_of_length_le (Nat.le_refl _)]; rfl) | (rw [List.length_append]; done) | (rw [List.length_append]; rfl) | rfl | trace_state
      · have hp : ¬ q 1 < 0 := h
        clear h
        rw [if_neg hp] at hem1
        have e1 : sn 1 (i + 1) = true := by rw [s1, hr, decide_eq_true (show 0 ≤ q 1 by omega), decide_eq_true rfl, Bool.true_and, Bool.or_true]
        refine And.intro (by decide) ?_
        conv => whnf
        cases d1 with
        | true =>
          rw [← f1, if_pos rfl] at hem1
          rw [hem1, List.append_nil] at hos1
          conv => whnf
          refine ⟨(i + 1, d0, true, d2), [(1020, 1020)], ⟨⟨by show i + 1 ≤ _; omega, by rw [e0]; exact f0, e1.symm, by rw [e2]; exact f2⟩, by show l.length - (i + 1) < l.length - i; omega⟩, ?_⟩
          simp only [hos1]
          cases d0 <;> cases d2
          all_goals (conv => whnf)
          all_goals (refine And.intro (And.intro (by with_unfolding_all rfl) (by intro q h; cases h)) ?_; refine And.intro ?_ (And.intro ?_ ?_) <;> (conv => whnf) <;> (repeat' (first | exact True.intro | (with_reducible exact rfl) | exact (rfl : List.replicate 0 PV.bad = []) | ((with_reducible refine And.intro ?_ ?_) <;> (first | (with_reducible exact wkV_same _ rfl) | exact wkV_pt rfl rfl | exact wkV_ow rfl rfl rfl | (refine wkV_ow rfl rfl ?_) | (refine wkV_sc (congrArg (Value.int .i64) ?_)) | (refine wkV_sc (congrArg Value.bool ?_)) | exact wkV_ls rfl | ((refine wkV_cl ?_); conv => whnf) | ((refine wkV_tu ?_); conv => whnf) | ((refine wkV_ag ?_); conv => whnf) | (conv => whnf))))))
          all_goals first | exact Or.inl rfl | exact w1 (by omega) | (refine obj_eq (by kernel_rfl) ?_; rw [List.take_of_length_le (Nat.le_refl _)]; done) | (refine obj_eq (by kernel_rfl) ?_; rw [List.take_of_length_le (Nat.le_refl _)]; rfl) | (rw [List.length_append]; done) | (rw [List.length_append]; rfl) | rfl | trace_state
        | false =>
          rw [← f1, if_neg (by decide)] at hem1
          rw [hem1] at hos1
          conv => whnf
          refine And.intro hgr ?_
          conv => whnf
          refine And.intro (by decide) ?_
          conv => whnf
          refine And.intro (by decide) ?_
          conv => whnf
          ((try ((refine Exists.intro none ?_); (conv => whnf))); first | ((with_reducible refine call_by (ktw 1) ?_); conv => whnf))
          (refine Exists.intro _ (And.intro rfl (And.intro (by intro q _; simp only [List.length_nil]; omega) (And.intro (by intro i hi; exact absurd hi (Nat.not_lt_zero i)) ?_))); conv => whnf)
          have b1 : ((ou i).length + 1) * 176 ≤ 140737488355328 := by omega
          have b2 : (ou i).length + 1 ≤ maxLen := leMax (by omega)
          (refine And.intro rfl ?_; (conv => whnf); refine And.intro (And.intro (And.intro (by kernel_rfl) (And.intro (Nat.le_refl _) (And.intro (b1) (And.intro (b2) (by intro r hr; rw [List.mem_singleton.1 hr]; rfl))))) (And.intro (by decide) rfl)) ?_; conv => whnf)
          refine And.intro (by decide) ?_
          conv => whnf
          refine ⟨(i + 1, d0, true, d2), [(1020, 2208)], ⟨⟨by show i + 1 ≤ _; omega, by rw [e0]; exact f0, e1.symm, by rw [e2]; exact f2⟩, by show l.length - (i + 1) < l.length - i; omega⟩, ?_⟩
          simp only [hos1]
          cases d0 <;> cases d2
          all_goals (conv => whnf)
          all_goals (refine And.intro (And.intro (by with_unfolding_all rfl) (by intro q h; cases h)) ?_; refine And.intro ?_ (And.intro ?_ ?_) <;> (conv => whnf) <;> (repeat' (first | exact True.intro | (with_reducible exact rfl) | exact (rfl : List.replicate 0 PV.bad = []) | ((with_reducible refine And.intro ?_ ?_) <;> (first | (with_reducible exact wkV_same _ rfl) | exact wkV_pt rfl rfl | exact wkV_ow rfl rfl rfl | (refine wkV_ow rfl rfl ?_) | (refine wkV_sc (congrArg (Value.int .i64) ?_)) | (refine wkV_sc (congrArg Value.bool ?_)) | exact wkV_ls rfl | ((refine wkV_cl ?_); conv => whnf) | ((refine wkV_tu ?_); conv => whnf) | ((refine wkV_ag ?_); conv => whnf) | (conv => whnf))))))
          all_goals first | exact Or.inl rfl | exact w1 (by omega) | (refine obj_eq (by kernel_rfl) ?_; rw [List.take_of_length_le (Nat.le_refl _)]; done) | (refine obj_eq (by kernel_rfl) ?_; rw [List.take_of_length_le (Nat.le_refl _)]; rfl) | (rw [List.length_append]; done) | (rw [List.length_append]; rfl) | rfl | trace_state
    · rw [hr] at km hem1 hgm
      have e0 : sn 0 (i + 1) = sn 0 i := by rw [s0, hr, decide_eq_false (show ¬ ((2 : Int) = 0) by decide), Bool.and_false, Bool.or_false]
      have e1 : sn 1 (i + 1) = sn 1 i := by rw [s1, hr, decide_eq_false (show ¬ ((2 : Int) = 1) by decide), Bool.and_false, Bool.or_false]
      have hgr := hgm 2 rfl
      ((try ((refine Exists.intro none ?_); (conv => whnf))); first | ((with_reducible refine call_by (km) ?_); conv => whnf))
      refine And.intro (by decide) ?_
      conv => whnf
      ((first | (with_reducible refine split_dec (fun h => ?_) (fun h => ?_)) | (with_reducible refine split_beq (fun h => ?_) (fun h => ?_)) | (with_reducible refine split_bne (fun h => ?_) (fun h => ?_)) | (with_reducible refine split_not (fun h => ?_) (fun h => ?_)) | (with_reducible refine split_beqS (fun h => ?_) (fun h => ?_)) | (with_reducible refine split_intro (fun h => ?_) (fun h => ?_))) <;> conv => whnf)
      · have hp : q 2 < 0 := h
        have e2 : sn 2 (i + 1) = sn 2 i := by rw [s2, decide_eq_false (show ¬ 0 ≤ q 2 by omega), Bool.false_and, Bool.or_false]
        rw [if_pos hp] at hem1
        rw [hem1] at hos1
        ((try ((refine Exists.intro none ?_); (conv => whnf))); first | ((with_reducible refine call_by (hc) ?_); conv => whnf))
        (refine Exists.intro _ (And.intro rfl (And.intro (by intro q _; simp only [List.length_nil]; omega) (And.intro (by intro i hi; exact absurd hi (Nat.not_lt_zero i)) ?_))); conv => whnf)
        have b1 : ((ou i).length + 1) * 176 ≤ 140737488355328 := by omega
        have b2 : (ou i).length + 1 ≤ maxLen := leMax (by omega)
        (refine And.intro rfl ?_; (conv => whnf); refine And.intro (And.intro (And.intro (by kernel_rfl) (And.intro (Nat.le_refl _) (And.intro (b1) (And.intro (b2) (by intro r hr; rw [List.mem_singleton.1 hr]; rfl))))) (And.intro (by decide) rfl)) ?_; conv => whnf)
        refine ⟨(i + 1, d0, d1, d2), [(1020, 1936)], ⟨⟨by show i + 1 ≤ _; omega, by rw [e0]; exact f0, by rw [e1]; exact f1, by rw [e2]; exact f2⟩, by show l.length - (i + 1) < l.length - i; omega⟩, ?_⟩
        simp only [hos1]
        cases d0 <;> cases d1 <;> cases d2
        all_goals (conv => whnf)
        all_goals (refine And.intro (And.intro (by with_unfolding_all rfl) (by intro q h; cases h)) ?_; refine And.intro ?_ (And.intro ?_ ?_) <;> (conv => whnf) <;> (repeat' (first | exact True.intro | (with_reducible exact rfl) | exact (rfl : List.replicate 0 PV.bad = []) | ((with_reducible refine And.intro ?_ ?_) <;> (first | (with_reducible exact wkV_same _ rfl) | exact wkV_pt rfl rfl | exact wkV_ow rfl rfl rfl | (refine wkV_ow rfl rfl ?_) | (refine wkV_sc (congrArg (Value.int .i64) ?_)) | (refine wkV_sc (congrArg Value.bool ?_)) | exact wkV_ls rfl | ((refine wkV_cl ?_); conv => whnf) | ((refine wkV_tu ?_); conv => whnf) | ((refine wkV_ag ?_); conv => whnf) | (conv => whnf))))))
        all_goals first | exact Or.inl rfl | exact w1 (by omega) | (refine obj_eq (by kernel_rfl) ?_; rw [List.take_of_length_le (Nat.le_refl _)]; done) | (refine obj_eq (by kernel_rfl) ?_; rw [List.take_of_length_le (Nat.le_refl _)]; rfl) | (rw [List.length_append]; done) | (rw [List.length_append]; rfl) | rfl | trace_state
      · have hp : ¬ q 2 < 0 := h
        clear h
        rw [if_neg hp] at hem1
        have e2 : sn 2 (i + 1) = true := by rw [s2, hr, decide_eq_true (show 0 ≤ q 2 by omega), decide_eq_true rfl, Bool.true_and, Bool.or_true]
        refine And.intro (by decide) ?_
        conv => whnf
        cases d2 with
        | true =>
          rw [← f2, if_pos rfl] at hem1
          rw [hem1, List.append_nil] at hos1
          conv => whnf
          refine ⟨(i + 1, d0, d1, true), [(1020, 1020)], ⟨⟨by show i + 1 ≤ _; omega, by rw [e0]; exact f0, by rw [e1]; exact f1, e2.symm⟩, by show l.length - (i + 1) < l.length - i; omega⟩, ?_⟩
          simp only [hos1]
          cases d0 <;> cases d1
          all_goals (conv => whnf)
          all_goals (refine And.intro (And.intro (by with_unfolding_all rfl) (by intro q h; cases h)) ?_; refine And.intro ?_ (And.intro ?_ ?_) <;> (conv => whnf) <;> (repeat' (first | exact True.intro | (with_reducible exact rfl) | exact (rfl : List.replicate 0 PV.bad = []) | ((with_reducible refine And.intro ?_ ?_) <;> (first | (with_reducible exact wkV_same _ rfl) | exact wkV_pt rfl rfl | exact wkV_ow rfl rfl rfl | (refine wkV_ow rfl rfl ?_) | (refine wkV_sc (congrArg (Value.int .i64) ?_)) | (refine wkV_sc (congrArg Value.bool ?_)) | exact wkV_ls rfl | ((refine wkV_cl ?_); conv => whnf) | ((refine wkV_tu ?_); conv => whnf) | ((refine wkV_ag ?_); conv => whnf) | (conv => whnf))))))
          all_goals first | exact Or.inl rfl | exact w1 (by omega) | (refine obj_eq (by kernel_rfl) ?_; rw [List.take_of_length_le (Nat.le_refl _)]; done) | (refine obj_eq (by kernel_rfl) ?_; rw [List.take_of_length_le (Nat.le_refl _)]; rfl) | (rw [List.length_append]; done) | (rw [List.length_append]; rfl) | rfl | trace_state
        | false =>
          rw [← f2, if_neg (by decide)] at hem1
          rw [hem1] at hos1
          conv => whnf
          refine And.intro hgr ?_
          conv => whnf
          refine And.intro (by decide) ?_
          conv => whnf
          refine And.intro (by decide) ?_
          conv => whnf
          ((try ((refine Exists.intro none ?_); (conv => whnf))); first | ((with_reducible refine call_by (ktw 2) ?_); conv => whnf))
          (refine Exists.intro _ (And.intro rfl (And.intro (by intro q _; simp only [List.length_nil]; omega) (And.intro (by intro i hi; exact absurd hi (Nat.not_lt_zero i)) ?_))); conv => whnf)
          have b1 : ((ou i).length + 1) * 176 ≤ 140737488355328 := by omega
          have b2 : (ou i).length + 1 ≤ maxLen := leMax (by omega)
          (refine And.intro rfl ?_; (conv => whnf); refine And.intro (And.intro (And.intro (by kernel_rfl) (And.intro (Nat.le_refl _) (And.intro (b1) (And.intro (b2) (by intro r hr; rw [List.mem_singleton.1 hr]; rfl))))) (And.intro (by decide) rfl)) ?_; conv => whnf)
          refine And.intro (by decide) ?_
          conv => whnf
          refine ⟨(i + 1, d0, d1, true), [(1020, 2208)], ⟨⟨by show i + 1 ≤ _; omega, by rw [e0]; exact f0, by rw [e1]; exact f1, e2.symm⟩, by show l.length - (i + 1) < l.length - i; omega⟩, ?_⟩
          simp only [hos1]
          cases d0 <;> cases d1
          all_goals (conv => whnf)
          all_goals (refine And.intro (And.intro (by with_unfolding_all rfl) (by intro q h; cases h)) ?_; refine And.intro ?_ (And.intro ?_ ?_) <;> (conv => whnf) <;> (repeat' (first | exact True.intro | (with_reducible exact rfl) | exact (rfl : List.replicate 0 PV.bad = []) | ((with_reducible refine And.intro ?_ ?_) <;> (first | (with_reducible exact wkV_same _ rfl) | exact wkV_pt rfl rfl | exact wkV_ow rfl rfl rfl | (refine wkV_ow rfl rfl ?_) | (refine wkV_sc (congrArg (Value.int .i64) ?_)) | (refine wkV_sc (congrArg Value.bool ?_)) | exact wkV_ls rfl | ((refine wkV_cl ?_); conv => whnf) | ((refine wkV_tu ?_); conv => whnf) | ((refine wkV_ag ?_); conv => whnf) | (conv => whnf))))))
          all_goals first | exact Or.inl rfl | exact w1 (by omega) | (refine obj_eq (by kernel_rfl) ?_; rw [List.take_of_length_le (Nat.le_refl _)]; done) | (refine obj_eq (by kernel_rfl) ?_; rw [List.take_of_length_le (Nat.le_refl _)]; rfl) | (rw [List.length_append]; done) | (rw [List.length_append]; rfl) | rfl | trace_state
  have ei : i = l.length := by simp only [List.length_map] at h; omega
  subst ei
  refine exit_fz2 [(1020, false, 16, ou l.length)] (fun q hq => by rw [List.mem_singleton.1 hq]; rfl) (wkV_tu ⟨wkV_fz2 (b := false) (List.Mem.head _) rfl, wkV_same _ rfl, rfl⟩)
end Go.Proofs
