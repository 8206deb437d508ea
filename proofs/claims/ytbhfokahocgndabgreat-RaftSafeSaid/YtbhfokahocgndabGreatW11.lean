import Derived.Test.YtbhfokahocgndabGreatR3
import Derived.Test.YtbhfokahocgndabGreatH8
/- Who led, by term: a variable of 1200 numbers. -/
set_option linter.unusedSimpArgs false
set_option linter.unusedVariables false
namespace Go.Proofs
open Go.Pv
set_option maxRecDepth 100000
noncomputable def wlS:{ g:(Nat→Int)→List PV // ∀ f,g f=(List.range 1200).map fun t=>iv (f t) }:=Classical.choice ⟨⟨_,fun _=>rfl⟩⟩
noncomputable def wl (f:Nat→Int):List PV:=wlS.1 f
theorem wl_eq (f:Nat→Int):wl f=(List.range 1200).map fun t=>iv (f t):=wlS.2 f
theorem zn3 {kb:List Nat}{rn:List (Nat×Nat)}{fz:List (Nat×Bool×Nat×List (List PV))} (f:Nat→Int):∀ l:List Nat,wkLK kb rn fz (l.map fun t=>iv (f t)) (l.map fun t=>iv (f t))
 | []=>rfl
 | _ :: l=>⟨zae _ rfl,zn3 f l⟩
theorem wkw {kb:List Nat}{rn:List (Nat×Nat)}{fz:List (Nat×Bool×Nat×List (List PV))} (f:Nat→Int):wkLK kb rn fz (wl f) (wl f):=by rw [wl_eq];exact zn3 f _
theorem wkw0 {kb:List Nat}{rn:List (Nat×Nat)}{fz:List (Nat×Bool×Nat×List (List PV))}{ls:List PV} (f:Nat→Int) (h:ls=(List.range 1200).map fun t=>iv (f t)):wkLK kb rn fz (wl f) ls:=by rw [wl_eq,h];exact zn3 f _
theorem at_wl {f:Nat→Int}{n t:Nat} (ht:t < 1200) (hn:n=t) {K:PV→Prop} (h:K (iv (f t))):dropK n (wl f) (fun sfx=>ldK Tryz.prog 3 sfx K):=by
 subst hn
 rw [zdq,wl_eq,← List.map_drop,List.drop_eq_getElem_cons (by rw [List.length_range];exact ht),List.getElem_range]
 exact h
theorem put_wl {f:Nat→Int}{n t:Nat}{v:Int} (ht:t < 1200) (hn:n=t) {K:List PV→Prop} (h:K (wl fun j=>if j=t then v else f j)):okK (Nat.ble (n+[iv v].length) (wl f).length) (zgh (wl f) n [iv v] K):=by
 subst hn
 have e:splice (wl f) n [iv v]=wl fun j=>if j=n then v else f j:=by
  unfold splice
  rw [wl_eq,wl_eq]
  refine List.ext_getElem (by simp only [List.length_append,List.length_take,List.length_drop,List.length_map,List.length_range,List.length_cons,List.length_nil];omega) fun i h1 h2=>?_
  have hi:i < 1200:=by simpa using h2
  rw [List.getElem_map,List.getElem_range]
  by_cases e1:i < n
  ·rw [if_neg (by omega),List.getElem_append_left (by simp;omega),List.getElem_append_left (by simp;omega)]
   simp
  ·by_cases e2:i=n
   ·subst e2
    rw [if_pos rfl,List.getElem_append_left (by simp;omega),List.getElem_append_right (by simp;omega)]
    simp
   ·rw [if_neg e2,List.getElem_append_right (by simp;omega)]
    simp
    congr 2
    omega
 rw [zfi,e,show Nat.ble (n+[iv v].length) (wl f).length=true by rw [wl_eq,List.length_map,List.length_range];exact Nat.ble_eq_true_of_le (by show n+1≤1200;omega)]
 exact h
theorem zol {s:Svn}{m:PV}{k n:Nat}{R:Rft} (hk:k < 7) (hn:n=k * 40) {K:List PV→Prop} (h:K (someV (s.put k R) m)):okK (Nat.ble (n+R.enc.length) (someV s m).length) (zgh (someV s m) n R.enc K):=by
 subst hn
 rcases (by omega:k=0∨k=1∨k=2∨k=3∨k=4∨k=5∨k=6) with rfl | rfl | rfl | rfl | rfl | rfl | rfl<;>(conv=>whnf)<;>exact h
theorem my_sh (y:My) {kb ko:List (Nat×Nat)}:shE kb ko (.ag y.enc)=.ag y.enc:=by
 obtain ⟨kd,fr,tt,tm,ix,lt,cm,rd,ye,cf,bd⟩:=y
 cases bd<;>rfl
theorem zle (b:Bd):SubV b.ev (.sl 16 (b.ents.map Ent.enc)):=by
 cases b with
 | no=>exact zcl
 | es l=>exact SubV.refl _
 | sn l=>exact zcl
theorem zlz (b:Bd):SubV b.sv (.sl 1 (b.snp.map encB)):=by
 cases b with
 | no=>exact zcl
 | es l=>exact zcl
 | sn l=>exact SubV.refl _
theorem res_my {c:CSt}{r:Rft}{y:My}{K:List (Nat×List PV)→List (Nat×Bool×Nat×List (List PV))→List PV→Prop} (h:K [] [] [.ag r.enc,.ag y.enc]):resAK c [.ag r.enc,.ag y.enc] K:=by
 obtain ⟨kd,fr,tt,tm,ix,lt,cm,rd,ye,cf,bd⟩:=y
 cases bd<;>exact h
theorem res_y1 {c:CSt}{y:My}{K:List (Nat×List PV)→List (Nat×Bool×Nat×List (List PV))→List PV→Prop} (h:K [] [] [.ag y.enc]):unLK [.ag y.enc] fun ps=>resAK c ps K:=by
 obtain ⟨kd,fr,tt,tm,ix,lt,cm,rd,ye,cf,bd⟩:=y
 cases bd<;>exact h
theorem res_yy {c:CSt}{x y:My}{K:List (Nat×List PV)→List (Nat×Bool×Nat×List (List PV))→List PV→Prop} (h:K [] [] [.ag x.enc,.ag y.enc]):resAK c [.ag x.enc,.ag y.enc] K:=by
 obtain ⟨kd,fr,tt,tm,ix,lt,cm,rd,ye,cf,bd⟩:=y
 obtain ⟨kd',fr',tt',tm',ix',lt',cm',rd',ye',cf',bd'⟩:=x
 cases bd<;>cases bd'<;>exact h
end Go.Proofs
