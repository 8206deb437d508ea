import Derived.Test.YtbhfokahocgndabGreatC48
import Derived.Test.YtbhfokahocgndabGreatPvQ3
import Derived.Test.YtbhfokahocgndabGreatC12
import Derived.Test.YtbhfokahocgndabGreatC27
import Derived.Test.YtbhfokahocgndabGreatY2
/- Plain law: a leader that feeds comes down to where the logs fit. -/
set_option linter.unusedSimpArgs false
set_option linter.unusedVariables false
set_option maxHeartbeats 4000000
namespace Go.Proofs
open Go.Pv
set_option maxRecDepth 100000
def feedP (g:Hrd) (next:Int):Int:=emin (next - 1) (lastI g)
def feedL (g:Hrd) (next:Int):List Ent:=fromL g (feedP g next+1) 8
theorem zzw {g:Hrd}{next:Int} (hg:hardB g=true) (hl:g.log.length≤4294967) (hn:g.base < next):∃ n:Nat,feedP g next=g.base+n∧n≤g.log.length∧feedL g next=(g.log.drop n).take 8∧zau g (feedP g next)=behind g.log g.baseTerm n:=by
 have hla:=zd9 hg hl
 have hp:feedP g next=min (next - 1) (lastI g):=zk1 _ _
 obtain ⟨n,e,hle⟩:∃ n:Nat,feedP g next=g.base+n∧n≤g.log.length:=⟨(feedP g next - g.base).toNat,by omega,by omega⟩
 refine ⟨n,e,hle,?_,zdy e hle⟩
 unfold feedL
 rw [e,z3c (by omega) (by omega),show (g.base+(n:Int)+1 - g.base - 1).toNat=n by omega]
 rfl
theorem zpm:∀ (l:List Ent) (b t t':Int),t≤t'→rowB l b t=true→rowB l b t'=true
 | [],_,_,_,_,_=>rfl
 | x :: l,b,t,t',h,e=>by
  simp only [rowB,Bool.and_eq_true,decide_eq_true_eq] at e ⊢
  exact ⟨⟨⟨e.1.1.1,by omega⟩,e.1.2⟩,zpm l x.term t t' h e.2⟩
def agr (g h:Hrd) (n:Nat):Prop:=∀ k,k < n→∃ a b,g.log[k]?=some a∧h.log[k]?=some b∧a.term=b.term
def nxN (next mt:Int) (yes:Bool) (i:Int):Int:=if yes=true then max next (max mt i+1) else max (min (next - 1) (i+1)) (mt+1)
def nxM (mt:Int) (yes:Bool) (i:Int):Int:=if yes=true then max mt i else mt
structure Fs where
 h:Hrd
 next:Int
 mt:Int
 i:Nat
structure FInv (g h0:Hrd) (s:Fs):Prop where
 hard:hardB s.h=true
 base:s.h.base=0
 term:g.term≤s.h.term
 len:s.h.log.length≤40
 ph:(s.h=h0∧s.mt=0∧1≤s.next∧(s.i:Int)+s.next≤g.log.length+1)∨(0≤s.mt∧s.mt≤g.log.length∧s.next=s.mt+1∧(s.i:Int)≤g.log.length+1+s.mt∧agr g s.h s.mt.toNat)
theorem c_growV (a : Hrd) (h1 : a.snap.length ≤ 4294967296) (h2 : a.log.length ≤ 4294967) (hb : isI a.base) (c : Int) (m : Mg) (h3 : m.entries.length ≤ 4294967) :
    Ctr Tryz.prog 187 [.ag a.enc,iv c,.ag m.enc] (resGW (growE a c m) (growO a c m)) []:=z3w (c_grow a h1 h2 hb c m h3)
theorem c_gNext (nx mt : Int) (m : Mg) (h1 : -1152921504606846976 ≤ nx ∧ nx ≤ 1152921504606846976) (h2 : -1152921504606846976 ≤ mt ∧ mt ≤ 1152921504606846976) (h3 : -1152921504606846976 ≤ m.index ∧ m.index ≤ 1152921504606846976) :
    Ctr Tryz.prog 190 [iv nx,iv mt,.ag m.enc] (.tu [iv (nxN nx mt m.yes m.index),iv (nxM mt m.yes m.index)]) []:=by
 have w1:IntKind.i64.wrap (nx - 1)=nx - 1:=zaf (by omega) (by omega)
 have w2:IntKind.i64.wrap (m.index+1)=m.index+1:=zaf (by omega) (by omega)
 have w3:IntKind.i64.wrap (mt+1)=mt+1:=zaf (by omega) (by omega)
 have w4:∀ x:Int,x≤1152921504606846976→-1152921504606846976≤x→IntKind.i64.wrap (x+1)=x+1:=fun x _ _=>zaf (by omega) (by omega)
 refine sBody Tryz.func190 ?_;conv=>whnf
 refine tS ?_ ?_<;>intro h
 ·refine zaa rfl ?_
  rw [w4 _ (by split<;>omega) (by split<;>omega),h]
  have q1:nxM mt true m.index=(if m.index > mt then m.index else mt):=by unfold nxM;rw [if_pos rfl];split<;>omega
  have q2:nxN nx mt true m.index=(if (if m.index > mt then m.index else mt)+1 > nx then (if m.index > mt then m.index else mt)+1 else nx):=by unfold nxN;rw [if_pos rfl];repeat' split<;>omega
  rw [q1,q2]
 ·have q1:nxM mt false m.index=mt:=by unfold nxM;rw [if_neg (by decide)]
  have q2:nxN nx mt false m.index=max (min (nx - 1) (m.index+1)) (mt+1):=by unfold nxN;rw [if_neg (by decide)]
  rw [h,q1,q2]
  refine tS ?_ ?_<;>intro h
  ·refine tS ?_ ?_<;>intro h
   ·refine zaa rfl ?_
    rw [w1] at *
    rw [w2,w3,show (if mt+1 > m.index+1 then mt+1 else m.index+1)=max (min (nx - 1) (m.index+1)) (mt+1) by split<;>omega]
   ·refine zaa rfl ?_
    rw [w1] at *
    rw [w3,show (if mt+1 > nx - 1 then mt+1 else nx - 1)=max (min (nx - 1) (m.index+1)) (mt+1) by split<;>omega]
  ·exfalso;omega
theorem c_rNext (nx mt : Int) (m : Mg) (h1 : -1152921504606846976 ≤ nx ∧ nx ≤ 1152921504606846976) (h2 : -1152921504606846976 ≤ mt ∧ mt ≤ 1152921504606846976) (h3 : -1152921504606846976 ≤ m.index ∧ m.index ≤ 1152921504606846976) :
    Ctr Tryz.prog 164 [iv nx,iv mt,.ag m.enc] (.tu [iv (nxN nx mt m.yes m.index),iv (nxM mt m.yes m.index)]) []:=by
 have w1:IntKind.i64.wrap (nx - 1)=nx - 1:=zaf (by omega) (by omega)
 have w2:IntKind.i64.wrap (m.index+1)=m.index+1:=zaf (by omega) (by omega)
 have w3:IntKind.i64.wrap (mt+1)=mt+1:=zaf (by omega) (by omega)
 have w4:∀ x:Int,x≤1152921504606846976→-1152921504606846976≤x→IntKind.i64.wrap (x+1)=x+1:=fun x _ _=>zaf (by omega) (by omega)
 refine sBody Tryz.func164 ?_;conv=>whnf
 refine tS ?_ ?_<;>intro h
 ·refine zaa rfl ?_
  rw [w4 _ (by split<;>omega) (by split<;>omega),h]
  have q1:nxM mt true m.index=(if m.index > mt then m.index else mt):=by unfold nxM;rw [if_pos rfl];split<;>omega
  have q2:nxN nx mt true m.index=(if (if m.index > mt then m.index else mt)+1 > nx then (if m.index > mt then m.index else mt)+1 else nx):=by unfold nxN;rw [if_pos rfl];repeat' split<;>omega
  rw [q1,q2]
 ·have q1:nxM mt false m.index=mt:=by unfold nxM;rw [if_neg (by decide)]
  have q2:nxN nx mt false m.index=max (min (nx - 1) (m.index+1)) (mt+1):=by unfold nxN;rw [if_neg (by decide)]
  rw [h,q1,q2]
  refine zaa rfl ?_
  rw [w1,w2,w3,show (if mt+1 > (if m.index+1 < nx - 1 then m.index+1 else nx - 1) then mt+1 else (if m.index+1 < nx - 1 then m.index+1 else nx - 1))=max (min (nx - 1) (m.index+1)) (mt+1) by repeat' split<;>omega]
theorem zai (x lo hi:Int):Ctr Tryz.prog 88 [iv x,iv lo,iv hi] (bv (decide (lo≤x∧x≤hi))) []:=by
 refine sBody Tryz.func88 ?_;conv=>whnf
 refine tS ?_ ?_<;>intro h
 ·exact zaa rfl (by simp [h])
 ·exact zaa rfl (by simp [h])
abbrev Mg.wi (m:Mg) (r:List (List PV)):Mg:={ m with inner:=r }
theorem far_k {x:Int} (h:0≤x∧x≤1099511627776):Ctr Tryz.prog 88 [iv x,iv 0,iv 1099511627776] (bv true) []:=by
 have:=zai x 0 1099511627776
 rwa [decide_eq_true h] at this
theorem s_flat (m:Mg) (r1 r2:List (List PV)) (hr:r1.length=r2.length) (h1:m.snap.length≤maxLen) (h2:m.entries.length≤maxLen):Ctr Tryz.prog 98 [.ag (m.wi r1).enc,.ag (m.wi r2).enc] (bv true) []:=by
 refine sBody Tryz.func98 ?_;conv=>whnf
 repeat' (first | refine tSame ?_ | ((with_reducible refine And.intro (show Tryz.prog.underlying _=some .bool by kernel_rfl) ?_);conv=>whnf) | (first | refine tC (z1q m.conf) ?_ | refine tC (zy8 m.snap h1) ?_ | refine tC (zpb m.entries h2) ?_) | fail)
 exact zaa rfl (by simp [hr])
theorem s_Msg (m : Mg) (zs : List Mg) (hl : zs.length ≤ 4294967) (f : Mg → List (List PV)) (hf : ∀ z ∈ zs, (f z).length = z.inner.length ∧ z.snap.length ≤ maxLen ∧ z.entries.length ≤ maxLen) (h1 : m.snap.length ≤ maxLen) (h2 : m.entries.length ≤ maxLen) :
    Ctr Tryz.prog 42 [.ag (m.wi (zs.map fun z=>(z.wi (f z)).enc)).enc,.ag (m.wi (zs.map Mg.enc)).enc] (bv true) []:=by
 refine sBody Tryz.func42 ?_;conv=>whnf
 refine tC (s_flat m (zs.map fun z=>(z.wi (f z)).enc) (zs.map Mg.enc) (by simp) h1 h2) ?_
 refine zbe mixed (by kernel_rfl) (fun j:Nat=>j≤zs.length) (fun j=>[(5,iv j)]) [] (fun j=>zs.length - j) 0 (Nat.zero_le _) ?_ ?_
 ·exact wkE
 intro j hj
 refine tS ?_ ?_<;>intro h
 ·simp only [List.length_map] at h
  have hlt:j < zs.length:=by omega
  obtain ⟨e1,e2,e3⟩:=hf _ (List.getElem_mem hlt)
  refine ⟨by omega,_,za3 hlt,?_⟩
  conv=>whnf
  refine ⟨by omega,_,za3 hlt,?_⟩
  refine tC (s_flat (zs[j]'hlt) (f (zs[j]'hlt)) (zs[j]'hlt).inner e1 e2 e3) ?_
  refine ⟨j+1,⟨by omega,by omega⟩,?_⟩
  exact wkE
 ·exact zaa rfl rfl
abbrev zA:Arr:=⟨0,0,0,0,0,0,0⟩
abbrev far:Int:=1099511627776
def Arr.all (a:Arr) (p:Int→Prop):Prop:=p a.a0∧p a.a1∧p a.a2∧p a.a3∧p a.a4∧p a.a5∧p a.a6
def Arr.put (a:Arr) (i:Nat) (v:Int):Arr:=match i with
 | 0=>{ a with a0:=v }
 | 1=>{ a with a1:=v }
 | 2=>{ a with a2:=v }
 | 3=>{ a with a3:=v }
 | 4=>{ a with a4:=v }
 | 5=>{ a with a5:=v }
 | 6=>{ a with a6:=v }
 | _=>a
noncomputable def fallR (r:Rft) (term lead:Int):Rft :=
 { r with role:=0,lead:=lead,votes:=0,reads:=[],next:=zA,mtch:=zA,silent:=zA,wait:=delay (zab r) r.id,hard:=if term > r.hard.term then { r.hard with term:=term,vote:=-1 } else r.hard }
noncomputable def othN (id bits:Int) (i:Nat):List Int:=((List.range i).filter fun k:Nat=>decide ((k:Int) ≠ id) && tb bits k).map fun k:Nat=>(k:Int)
def inR (g x:Int):Bool:=decide (0≤x∧x≤g)
theorem zca (g x:Int):Ctr Tryz.prog 49 [iv g,.sl 1 [[iv x]]] (bv (inR g x)) []:=by
 unfold inR
 refine sBody Tryz.func49 ?_;conv=>whnf
 refine zby mixed (by kernel_rfl) 3 ?_
 conv=>whnf
 refine tR ?_
 refine tS ?_ ?_<;>intro h
 ·exact zaa rfl (by rw [decide_eq_false (by omega)])
 have h1:=h
 clear h
 refine tS ?_ ?_<;>intro h
 ·exact zaa rfl (by rw [decide_eq_false (by omega)])
 ·exact zaa rfl (by rw [decide_eq_true (by omega)])
theorem zjc (g x y:Int):Ctr Tryz.prog 49 [iv g,.sl 1 [[iv x],[iv y]]] (bv (inR g x && inR g y)) []:=by
 unfold inR
 refine sBody Tryz.func49 ?_;conv=>whnf
 refine zby mixed (by kernel_rfl) 4 ?_
 conv=>whnf
 refine tR ?_
 refine tS ?_ ?_<;>intro h
 ·exact zaa rfl (by rw [decide_eq_false (show ¬ (0≤x∧x≤g) by omega)];rfl)
 have h1:=h
 clear h
 refine tS ?_ ?_<;>intro h
 ·exact zaa rfl (by rw [decide_eq_false (show ¬ (0≤x∧x≤g) by omega)];rfl)
 have h2:=h
 clear h
 refine tR ?_
 refine tS ?_ ?_<;>intro h
 ·exact zaa rfl (by rw [decide_eq_false (show ¬ (0≤y∧y≤g) by omega),Bool.and_false])
 have h3:=h
 clear h
 refine tS ?_ ?_<;>intro h
 ·exact zaa rfl (by rw [decide_eq_false (show ¬ (0≤y∧y≤g) by omega),Bool.and_false])
 ·exact zaa rfl (by rw [decide_eq_true (show 0≤x∧x≤g by omega),decide_eq_true (show 0≤y∧y≤g by omega)];rfl)
def arrR (g:Int) (a:Arr):Bool:=inR g a.a0 && (inR g a.a1 && (inR g a.a2 && (inR g a.a3 && (inR g a.a4 && (inR g a.a5 && inR g a.a6)))))
theorem za2 {g x:Int} (h:¬ (0≤x∧x≤g)):inR g x=false:=decide_eq_false h
theorem zac {g x:Int} (h:0≤x∧x≤g):inR g x=true:=decide_eq_true h
theorem zv0 (g:Int) (r:Rft):CtrE Tryz.prog 49 [iv g,.bs 9990 18 7] [(9990,r.enc)] [] (bv (arrR g r.next)) [(9990,r.enc)] []:=by
 unfold arrR
 refine zaj Tryz.func49 ?_;conv=>whnf
 refine zby mixed (by kernel_rfl) 9 ?_
 conv=>whnf
 refine ⟨by decide,?_⟩
 refine tS ?_ ?_<;>intro h
 ·have e:¬ (0≤r.next.a0∧r.next.a0≤g):=by omega
  rw [za2 e]
  exact eX []
 have h00:=h
 clear h
 refine tS ?_ ?_<;>intro h
 ·have e:¬ (0≤r.next.a0∧r.next.a0≤g):=by omega
  rw [za2 e]
  exact eX []
 have h01:=h
 clear h
 have z0:0≤r.next.a0∧r.next.a0≤g:=by omega
 refine ⟨by decide,?_⟩
 refine tS ?_ ?_<;>intro h
 ·have e:¬ (0≤r.next.a1∧r.next.a1≤g):=by omega
  rw [zac z0,za2 e]
  exact eX []
 have h10:=h
 clear h
 refine tS ?_ ?_<;>intro h
 ·have e:¬ (0≤r.next.a1∧r.next.a1≤g):=by omega
  rw [zac z0,za2 e]
  exact eX []
 have h11:=h
 clear h
 have z1:0≤r.next.a1∧r.next.a1≤g:=by omega
 refine ⟨by decide,?_⟩
 refine tS ?_ ?_<;>intro h
 ·have e:¬ (0≤r.next.a2∧r.next.a2≤g):=by omega
  rw [zac z0,zac z1,za2 e]
  exact eX []
 have h20:=h
 clear h
 refine tS ?_ ?_<;>intro h
 ·have e:¬ (0≤r.next.a2∧r.next.a2≤g):=by omega
  rw [zac z0,zac z1,za2 e]
  exact eX []
 have h21:=h
 clear h
 have z2:0≤r.next.a2∧r.next.a2≤g:=by omega
 refine ⟨by decide,?_⟩
 refine tS ?_ ?_<;>intro h
 ·have e:¬ (0≤r.next.a3∧r.next.a3≤g):=by omega
  rw [zac z0,zac z1,zac z2,za2 e]
  exact eX []
 have h30:=h
 clear h
 refine tS ?_ ?_<;>intro h
 ·have e:¬ (0≤r.next.a3∧r.next.a3≤g):=by omega
  rw [zac z0,zac z1,zac z2,za2 e]
  exact eX []
 have h31:=h
 clear h
 have z3:0≤r.next.a3∧r.next.a3≤g:=by omega
 refine ⟨by decide,?_⟩
 refine tS ?_ ?_<;>intro h
 ·have e:¬ (0≤r.next.a4∧r.next.a4≤g):=by omega
  rw [zac z0,zac z1,zac z2,zac z3,za2 e]
  exact eX []
 have h40:=h
 clear h
 refine tS ?_ ?_<;>intro h
 ·have e:¬ (0≤r.next.a4∧r.next.a4≤g):=by omega
  rw [zac z0,zac z1,zac z2,zac z3,za2 e]
  exact eX []
 have h41:=h
 clear h
 have z4:0≤r.next.a4∧r.next.a4≤g:=by omega
 refine ⟨by decide,?_⟩
 refine tS ?_ ?_<;>intro h
 ·have e:¬ (0≤r.next.a5∧r.next.a5≤g):=by omega
  rw [zac z0,zac z1,zac z2,zac z3,zac z4,za2 e]
  exact eX []
 have h50:=h
 clear h
 refine tS ?_ ?_<;>intro h
 ·have e:¬ (0≤r.next.a5∧r.next.a5≤g):=by omega
  rw [zac z0,zac z1,zac z2,zac z3,zac z4,za2 e]
  exact eX []
 have h51:=h
 clear h
 have z5:0≤r.next.a5∧r.next.a5≤g:=by omega
 refine ⟨by decide,?_⟩
 refine tS ?_ ?_<;>intro h
 ·have e:¬ (0≤r.next.a6∧r.next.a6≤g):=by omega
  rw [zac z0,zac z1,zac z2,zac z3,zac z4,zac z5,za2 e]
  exact eX []
 have h60:=h
 clear h
 refine tS ?_ ?_<;>intro h
 ·have e:¬ (0≤r.next.a6∧r.next.a6≤g):=by omega
  rw [zac z0,zac z1,zac z2,zac z3,zac z4,zac z5,za2 e]
  exact eX []
 have h61:=h
 clear h
 have z6:0≤r.next.a6∧r.next.a6≤g:=by omega
 rw [zac z0,zac z1,zac z2,zac z3,zac z4,zac z5,zac z6]
 exact eX []
theorem zvn (g:Int) (r:Rft):CtrE Tryz.prog 49 [iv g,.bs 9990 25 7] [(9990,r.enc)] [] (bv (arrR g r.mtch)) [(9990,r.enc)] []:=by
 unfold arrR
 refine zaj Tryz.func49 ?_;conv=>whnf
 refine zby mixed (by kernel_rfl) 9 ?_
 conv=>whnf
 refine ⟨by decide,?_⟩
 refine tS ?_ ?_<;>intro h
 ·have e:¬ (0≤r.mtch.a0∧r.mtch.a0≤g):=by omega
  rw [za2 e]
  exact eX []
 have h00:=h
 clear h
 refine tS ?_ ?_<;>intro h
 ·have e:¬ (0≤r.mtch.a0∧r.mtch.a0≤g):=by omega
  rw [za2 e]
  exact eX []
 have h01:=h
 clear h
 have z0:0≤r.mtch.a0∧r.mtch.a0≤g:=by omega
 refine ⟨by decide,?_⟩
 refine tS ?_ ?_<;>intro h
 ·have e:¬ (0≤r.mtch.a1∧r.mtch.a1≤g):=by omega
  rw [zac z0,za2 e]
  exact eX []
 have h10:=h
 clear h
 refine tS ?_ ?_<;>intro h
 ·have e:¬ (0≤r.mtch.a1∧r.mtch.a1≤g):=by omega
  rw [zac z0,za2 e]
  exact eX []
 have h11:=h
 clear h
 have z1:0≤r.mtch.a1∧r.mtch.a1≤g:=by omega
 refine ⟨by decide,?_⟩
 refine tS ?_ ?_<;>intro h
 ·have e:¬ (0≤r.mtch.a2∧r.mtch.a2≤g):=by omega
  rw [zac z0,zac z1,za2 e]
  exact eX []
 have h20:=h
 clear h
 refine tS ?_ ?_<;>intro h
 ·have e:¬ (0≤r.mtch.a2∧r.mtch.a2≤g):=by omega
  rw [zac z0,zac z1,za2 e]
  exact eX []
 have h21:=h
 clear h
 have z2:0≤r.mtch.a2∧r.mtch.a2≤g:=by omega
 refine ⟨by decide,?_⟩
 refine tS ?_ ?_<;>intro h
 ·have e:¬ (0≤r.mtch.a3∧r.mtch.a3≤g):=by omega
  rw [zac z0,zac z1,zac z2,za2 e]
  exact eX []
 have h30:=h
 clear h
 refine tS ?_ ?_<;>intro h
 ·have e:¬ (0≤r.mtch.a3∧r.mtch.a3≤g):=by omega
  rw [zac z0,zac z1,zac z2,za2 e]
  exact eX []
 have h31:=h
 clear h
 have z3:0≤r.mtch.a3∧r.mtch.a3≤g:=by omega
 refine ⟨by decide,?_⟩
 refine tS ?_ ?_<;>intro h
 ·have e:¬ (0≤r.mtch.a4∧r.mtch.a4≤g):=by omega
  rw [zac z0,zac z1,zac z2,zac z3,za2 e]
  exact eX []
 have h40:=h
 clear h
 refine tS ?_ ?_<;>intro h
 ·have e:¬ (0≤r.mtch.a4∧r.mtch.a4≤g):=by omega
  rw [zac z0,zac z1,zac z2,zac z3,za2 e]
  exact eX []
 have h41:=h
 clear h
 have z4:0≤r.mtch.a4∧r.mtch.a4≤g:=by omega
 refine ⟨by decide,?_⟩
 refine tS ?_ ?_<;>intro h
 ·have e:¬ (0≤r.mtch.a5∧r.mtch.a5≤g):=by omega
  rw [zac z0,zac z1,zac z2,zac z3,zac z4,za2 e]
  exact eX []
 have h50:=h
 clear h
 refine tS ?_ ?_<;>intro h
 ·have e:¬ (0≤r.mtch.a5∧r.mtch.a5≤g):=by omega
  rw [zac z0,zac z1,zac z2,zac z3,zac z4,za2 e]
  exact eX []
 have h51:=h
 clear h
 have z5:0≤r.mtch.a5∧r.mtch.a5≤g:=by omega
 refine ⟨by decide,?_⟩
 refine tS ?_ ?_<;>intro h
 ·have e:¬ (0≤r.mtch.a6∧r.mtch.a6≤g):=by omega
  rw [zac z0,zac z1,zac z2,zac z3,zac z4,zac z5,za2 e]
  exact eX []
 have h60:=h
 clear h
 refine tS ?_ ?_<;>intro h
 ·have e:¬ (0≤r.mtch.a6∧r.mtch.a6≤g):=by omega
  rw [zac z0,zac z1,zac z2,zac z3,zac z4,zac z5,za2 e]
  exact eX []
 have h61:=h
 clear h
 have z6:0≤r.mtch.a6∧r.mtch.a6≤g:=by omega
 rw [zac z0,zac z1,zac z2,zac z3,zac z4,zac z5,zac z6]
 exact eX []
theorem zwv (g:Int) (r:Rft):CtrE Tryz.prog 49 [iv g,.bs 9990 32 7] [(9990,r.enc)] [] (bv (arrR g r.silent)) [(9990,r.enc)] []:=by
 unfold arrR
 refine zaj Tryz.func49 ?_;conv=>whnf
 refine zby mixed (by kernel_rfl) 9 ?_
 conv=>whnf
 refine ⟨by decide,?_⟩
 refine tS ?_ ?_<;>intro h
 ·have e:¬ (0≤r.silent.a0∧r.silent.a0≤g):=by omega
  rw [za2 e]
  exact eX []
 have h00:=h
 clear h
 refine tS ?_ ?_<;>intro h
 ·have e:¬ (0≤r.silent.a0∧r.silent.a0≤g):=by omega
  rw [za2 e]
  exact eX []
 have h01:=h
 clear h
 have z0:0≤r.silent.a0∧r.silent.a0≤g:=by omega
 refine ⟨by decide,?_⟩
 refine tS ?_ ?_<;>intro h
 ·have e:¬ (0≤r.silent.a1∧r.silent.a1≤g):=by omega
  rw [zac z0,za2 e]
  exact eX []
 have h10:=h
 clear h
 refine tS ?_ ?_<;>intro h
 ·have e:¬ (0≤r.silent.a1∧r.silent.a1≤g):=by omega
  rw [zac z0,za2 e]
  exact eX []
 have h11:=h
 clear h
 have z1:0≤r.silent.a1∧r.silent.a1≤g:=by omega
 refine ⟨by decide,?_⟩
 refine tS ?_ ?_<;>intro h
 ·have e:¬ (0≤r.silent.a2∧r.silent.a2≤g):=by omega
  rw [zac z0,zac z1,za2 e]
  exact eX []
 have h20:=h
 clear h
 refine tS ?_ ?_<;>intro h
 ·have e:¬ (0≤r.silent.a2∧r.silent.a2≤g):=by omega
  rw [zac z0,zac z1,za2 e]
  exact eX []
 have h21:=h
 clear h
 have z2:0≤r.silent.a2∧r.silent.a2≤g:=by omega
 refine ⟨by decide,?_⟩
 refine tS ?_ ?_<;>intro h
 ·have e:¬ (0≤r.silent.a3∧r.silent.a3≤g):=by omega
  rw [zac z0,zac z1,zac z2,za2 e]
  exact eX []
 have h30:=h
 clear h
 refine tS ?_ ?_<;>intro h
 ·have e:¬ (0≤r.silent.a3∧r.silent.a3≤g):=by omega
  rw [zac z0,zac z1,zac z2,za2 e]
  exact eX []
 have h31:=h
 clear h
 have z3:0≤r.silent.a3∧r.silent.a3≤g:=by omega
 refine ⟨by decide,?_⟩
 refine tS ?_ ?_<;>intro h
 ·have e:¬ (0≤r.silent.a4∧r.silent.a4≤g):=by omega
  rw [zac z0,zac z1,zac z2,zac z3,za2 e]
  exact eX []
 have h40:=h
 clear h
 refine tS ?_ ?_<;>intro h
 ·have e:¬ (0≤r.silent.a4∧r.silent.a4≤g):=by omega
  rw [zac z0,zac z1,zac z2,zac z3,za2 e]
  exact eX []
 have h41:=h
 clear h
 have z4:0≤r.silent.a4∧r.silent.a4≤g:=by omega
 refine ⟨by decide,?_⟩
 refine tS ?_ ?_<;>intro h
 ·have e:¬ (0≤r.silent.a5∧r.silent.a5≤g):=by omega
  rw [zac z0,zac z1,zac z2,zac z3,zac z4,za2 e]
  exact eX []
 have h50:=h
 clear h
 refine tS ?_ ?_<;>intro h
 ·have e:¬ (0≤r.silent.a5∧r.silent.a5≤g):=by omega
  rw [zac z0,zac z1,zac z2,zac z3,zac z4,za2 e]
  exact eX []
 have h51:=h
 clear h
 have z5:0≤r.silent.a5∧r.silent.a5≤g:=by omega
 refine ⟨by decide,?_⟩
 refine tS ?_ ?_<;>intro h
 ·have e:¬ (0≤r.silent.a6∧r.silent.a6≤g):=by omega
  rw [zac z0,zac z1,zac z2,zac z3,zac z4,zac z5,za2 e]
  exact eX []
 have h60:=h
 clear h
 refine tS ?_ ?_<;>intro h
 ·have e:¬ (0≤r.silent.a6∧r.silent.a6≤g):=by omega
  rw [zac z0,zac z1,zac z2,zac z3,zac z4,zac z5,za2 e]
  exact eX []
 have h61:=h
 clear h
 have z6:0≤r.silent.a6∧r.silent.a6≤g:=by omega
 rw [zac z0,zac z1,zac z2,zac z3,zac z4,zac z5,zac z6]
 exact eX []
noncomputable def rdB (commit:Int) (x:Rd):Bool:=decide (callR x.call=0) && (inR commit x.index && (inR far x.round && inR 127 x.acks))
noncomputable def rdsB (r:Rft):Bool:=if 4 < r.reads.length then false else if 0 < r.reads.length∧r.role ≠ 3 then false else r.reads.all (rdB r.commit)
theorem zpj (r:Rft) (hm:r.reads.length≤maxLen):Ctr Tryz.prog 50 [.ag r.enc] (bv (rdsB r)) []:=by
 have hlm:(r.reads.map Rd.enc).length=r.reads.length:=List.length_map ..
 have hm':r.reads.length≤9223372036854775807:=Nat.le_trans hm (by decide)
 by_cases h4:4 < r.reads.length
 ·rw [show rdsB r=false by unfold rdsB;rw [if_pos h4]]
  refine sBody Tryz.func50 ?_;conv=>whnf
  refine tS ?_ ?_<;>intro h
  ·exact zaa rfl rfl
  ·exfalso;omega
 have h4':¬ (4:Int) < ((r.reads.map Rd.enc).length:Int):=by omega
 by_cases hz:0 < r.reads.length∧r.role ≠ 3
 ·rw [show rdsB r=false by unfold rdsB;rw [if_neg h4,if_pos hz]]
  refine sBody Tryz.func50 ?_;conv=>whnf
  refine tS ?_ ?_<;>intro h
  ·exact zaa rfl rfl
  clear h
  refine tS ?_ ?_<;>intro h
  ·refine tS ?_ ?_<;>intro h
   ·exact zaa rfl rfl
   ·exfalso;exact hz.2 (by first | exact h | exact Classical.byContradiction h)
  ·exfalso;omega
 have e0:rdsB r=r.reads.all (rdB r.commit):=by unfold rdsB;rw [if_neg h4,if_neg hz]
 rw [e0]
 have kw:=fun x:Rd=>zg8 x.call
 clear e0
 refine sBody Tryz.func50 ?_;conv=>whnf
 refine tS ?_ ?_<;>intro h
 ·exfalso;omega
 clear h
 refine tS ?_ ?_<;>intro h
 ·have h0:=h
  clear h
  refine tS ?_ ?_<;>intro h
  ·exfalso;exact hz ⟨by omega,h⟩
  clear h
  refine zbe mixed (by kernel_rfl) (fun i:Nat=>i≤r.reads.length∧∀ j (hj:j < r.reads.length),j < i→rdB r.commit (r.reads[j]'hj)=true) (fun i=>[(23,iv i)]) [] (fun i=>r.reads.length - i) 0 ⟨Nat.zero_le _,fun j _ h=>absurd h (Nat.not_lt_zero _)⟩ ?_ ?_
  ·exact wkE
  rintro i ⟨hi,hal⟩
  refine tS ?_ ?_<;>intro h
  ·have hlt:i < r.reads.length:=by omega
   clear h
   have no:rdB r.commit (r.reads[i]'hlt)=false→r.reads.all (rdB r.commit)=false:=fun hn=>by
    rw [List.all_eq_false]
    exact ⟨_,List.getElem_mem hlt,by rw [hn];decide⟩
   have hk:=kw (r.reads[i]'hlt)
   have k1:=zca r.commit (r.reads[i]'hlt).index
   have k2:=zca far (r.reads[i]'hlt).round
   have k3:=zca 127 (r.reads[i]'hlt).acks
   have hdef:rdB r.commit (r.reads[i]'hlt)=(decide (callR (r.reads[i]'hlt).call=0) && (inR r.commit (r.reads[i]'hlt).index && (inR far (r.reads[i]'hlt).round && inR 127 (r.reads[i]'hlt).acks))):=rfl
   have hstep:rdB r.commit (r.reads[i]'hlt)=true→∀ j (hj:j < r.reads.length),j < i+1→rdB r.commit (r.reads[j]'hj)=true:=fun ht j hj hji=>by
    by_cases e:j=i
    ·subst e;exact ht
    ·exact hal j hj (by omega)
   refine tAt (za3 hlt) ?_
   generalize r.reads[i]'hlt=x at *
   refine tC hk ?_
   refine tS ?_ ?_<;>intro h
   ·exact zaa rfl (by rw [no (by rw [hdef,decide_eq_false h];rfl)])
   have hc:callR x.call=0:=by first | exact h | exact Classical.byContradiction h
   clear h
   rw [decide_eq_true hc,Bool.true_and] at hdef
   generalize inR r.commit x.index=b1 at *
   generalize inR far x.round=b2 at *
   generalize inR 127 x.acks=b3 at *
   cases b1
   ·refine tCR k1 ?_
    exact zaa rfl (by rw [no hdef])
   cases b2
   ·refine tCR k1 ?_
    refine tCR k2 ?_
    exact zaa rfl (by rw [no hdef])
   cases b3
   ·refine tCR k1 ?_
    refine tCR k2 ?_
    refine tCR k3 ?_
    exact zaa rfl (by rw [no hdef])
   refine tCR k1 ?_
   refine tCR k2 ?_
   refine tCR k3 ?_
   refine ⟨i+1,⟨⟨by omega,hstep hdef⟩,by omega⟩,?_⟩
   exact wkE
  ·have ei:i=r.reads.length:=by omega
   have:r.reads.all (rdB r.commit)=true:=by
    rw [List.all_eq_true]
    intro x hx
    obtain ⟨j,hj,rfl⟩:=List.getElem_of_mem hx
    exact hal j hj (by omega)
   exact zaa rfl (by rw [this])
 ·clear h
  refine zbe mixed (by kernel_rfl) (fun i:Nat=>i≤r.reads.length∧∀ j (hj:j < r.reads.length),j < i→rdB r.commit (r.reads[j]'hj)=true) (fun i=>[(23,iv i)]) [] (fun i=>r.reads.length - i) 0 ⟨Nat.zero_le _,fun j _ h=>absurd h (Nat.not_lt_zero _)⟩ ?_ ?_
  ·exact wkE
  rintro i ⟨hi,hal⟩
  refine tS ?_ ?_<;>intro h
  ·have hlt:i < r.reads.length:=by omega
   clear h
   have no:rdB r.commit (r.reads[i]'hlt)=false→r.reads.all (rdB r.commit)=false:=fun hn=>by
    rw [List.all_eq_false]
    exact ⟨_,List.getElem_mem hlt,by rw [hn];decide⟩
   have hk:=kw (r.reads[i]'hlt)
   have k1:=zca r.commit (r.reads[i]'hlt).index
   have k2:=zca far (r.reads[i]'hlt).round
   have k3:=zca 127 (r.reads[i]'hlt).acks
   have hdef:rdB r.commit (r.reads[i]'hlt)=(decide (callR (r.reads[i]'hlt).call=0) && (inR r.commit (r.reads[i]'hlt).index && (inR far (r.reads[i]'hlt).round && inR 127 (r.reads[i]'hlt).acks))):=rfl
   have hstep:rdB r.commit (r.reads[i]'hlt)=true→∀ j (hj:j < r.reads.length),j < i+1→rdB r.commit (r.reads[j]'hj)=true:=fun ht j hj hji=>by
    by_cases e:j=i
    ·subst e;exact ht
    ·exact hal j hj (by omega)
   refine tAt (za3 hlt) ?_
   generalize r.reads[i]'hlt=x at *
   refine tC hk ?_
   refine tS ?_ ?_<;>intro h
   ·exact zaa rfl (by rw [no (by rw [hdef,decide_eq_false h];rfl)])
   have hc:callR x.call=0:=by first | exact h | exact Classical.byContradiction h
   clear h
   rw [decide_eq_true hc,Bool.true_and] at hdef
   generalize inR r.commit x.index=b1 at *
   generalize inR far x.round=b2 at *
   generalize inR 127 x.acks=b3 at *
   cases b1
   ·refine tCR k1 ?_
    exact zaa rfl (by rw [no hdef])
   cases b2
   ·refine tCR k1 ?_
    refine tCR k2 ?_
    exact zaa rfl (by rw [no hdef])
   cases b3
   ·refine tCR k1 ?_
    refine tCR k2 ?_
    refine tCR k3 ?_
    exact zaa rfl (by rw [no hdef])
   refine tCR k1 ?_
   refine tCR k2 ?_
   refine tCR k3 ?_
   refine ⟨i+1,⟨⟨by omega,hstep hdef⟩,by omega⟩,?_⟩
   exact wkE
  ·have ei:i=r.reads.length:=by omega
   have:r.reads.all (rdB r.commit)=true:=by
    rw [List.all_eq_true]
    intro x hx
    obtain ⟨j,hj,rfl⟩:=List.getElem_of_mem hx
    exact hal j hj (by omega)
   exact zaa rfl (by rw [this])
noncomputable def zbu (r:Rft):Bool:=hardB r.hard && (inR 6 r.id && (decide (r.hard.base≤r.commit) && (decide (r.commit≤lastI r.hard) && (inR 3 r.role && (decide (-1≤r.lead) && (decide (r.lead < 7) && (inR 100 r.wait && ((inR far r.quiet && inR far r.round) && (inR 127 r.votes && (arrR far r.next && (arrR (lastI r.hard) r.mtch && (arrR far r.silent && (rdsB r && (if r.role=3 then decide (r.lead=r.id) else true))))))))))))))
theorem zud (r:Rft) (hm:r.hard.log.length≤maxLen) (hm2:r.reads.length≤maxLen):Ctr Tryz.prog 13 [.ag r.enc] (iv (if zbu r=true then 0 else 6)) []:=by
 have kh:=zgv r.hard hm
 have kl:=zc1 r.hard hm
 have k1:=zca 6 r.id
 have k2:=zca 3 r.role
 have k3:=zca 100 r.wait
 have k4:=zjc far r.quiet r.round
 have k5:=zca 127 r.votes
 have k6:=zv0 far r
 have k7:=zvn (lastI r.hard) r
 have k8:=zwv far r
 have k9:=zpj r hm2
 unfold zbu
 generalize hardB r.hard=b0 at *
 generalize lastI r.hard=li at *
 generalize inR 6 r.id=b1 at *
 generalize inR 3 r.role=b2 at *
 generalize inR 100 r.wait=b3 at *
 generalize (inR far r.quiet && inR far r.round)=b4 at *
 generalize inR 127 r.votes=b5 at *
 generalize arrR far r.next=b6 at *
 generalize arrR li r.mtch=b7 at *
 generalize arrR far r.silent=b8 at *
 generalize rdsB r=b9 at *
 cases b0 with
 | false =>
  refine sBody Tryz.func13 ?_;conv=>whnf
  refine tC kh ?_
  exact zaa rfl rfl
 | true =>
 refine sBody Tryz.func13 ?_;conv=>whnf
 refine tC kh ?_
 refine tC kl ?_
 cases b1 with
 | false =>
  refine tCR k1 ?_
  exact zaa rfl (by simp)
 | true =>
 refine tCR k1 ?_
 refine tS ?_ ?_<;>intro h
 ·have g0:=h
  clear h
  refine tS ?_ ?_<;>intro h
  ·have g1:=h
   clear h
   cases b2 with
   | false =>
    refine tCR k2 ?_
    exact zaa rfl (by simp)
   | true =>
   refine tCR k2 ?_
   refine tS ?_ ?_<;>intro h
   ·have g2:=h
    clear h
    refine tS ?_ ?_<;>intro h
    ·have g3:=h
     clear h
     cases b3 with
     | false =>
      refine tCR k3 ?_
      exact zaa rfl (by simp)
     | true =>
     refine tCR k3 ?_
     cases b4 with
     | false =>
      refine tCR k4 ?_
      exact zaa rfl (by simp)
     | true =>
     refine tCR k4 ?_
     cases b5 with
     | false =>
      refine tCR k5 ?_
      exact zaa rfl (by simp)
     | true =>
     refine tCR k5 ?_
     cases b6 with
     | false =>
      refine tE ([(9990,1)],[],[]) k6 ?_
      exact zaa rfl (by simp)
     | true =>
     refine tE ([(9990,1)],[],[]) k6 ?_
     cases b7 with
     | false =>
      refine tE ([(9990,1)],[],[]) k7 ?_
      exact zaa rfl (by simp)
     | true =>
     refine tE ([(9990,1)],[],[]) k7 ?_
     cases b8 with
     | false =>
      refine tE ([(9990,1)],[],[]) k8 ?_
      exact zaa rfl (by simp)
     | true =>
     refine tE ([(9990,1)],[],[]) k8 ?_
     cases b9 with
     | false =>
      refine tC k9 ?_
      exact zaa rfl (by simp)
     | true =>
     refine tC k9 ?_
     refine tS ?_ ?_<;>intro h
     ·exact zaa rfl (by simp [*])
     ·have gr:r.role=3:=by first | exact h | exact Classical.byContradiction h
      clear h
      refine tS ?_ ?_<;>intro h
      ·exact zaa rfl (by simp_all)
      ·exact zaa rfl (by simp_all)
    ·exact zaa rfl (by simp [h])
   ·exact zaa rfl (by simp [h])
  ·exact zaa rfl (by simp [h])
 ·exact zaa rfl (by simp [h])
abbrev repV (x:Rft) (sn lg rd out:PV):List PV:=[iv x.id,iv x.hard.term,iv x.hard.vote,iv x.hard.base,iv x.hard.baseTerm,iv x.hard.baseConf.full,iv x.hard.baseConf.wit,iv x.hard.baseConf.learn,iv x.hard.baseConf.lwit,sn,lg,iv x.commit,iv x.role,iv x.lead,iv x.wait,iv x.quiet,iv x.votes,iv x.round,iv x.next.a0,iv x.next.a1,iv x.next.a2,iv x.next.a3,iv x.next.a4,iv x.next.a5,iv x.next.a6,iv x.mtch.a0,iv x.mtch.a1,iv x.mtch.a2,iv x.mtch.a3,iv x.mtch.a4,iv x.mtch.a5,iv x.mtch.a6,iv x.silent.a0,iv x.silent.a1,iv x.silent.a2,iv x.silent.a3,iv x.silent.a4,iv x.silent.a5,iv x.silent.a6,rd,out]
abbrev snW (x:Rft) (k:Nat):PV:=.ow k 0 (x.hard.snap.map encB).length
abbrev lgW (x:Rft) (k:Nat):PV:=.ow k 0 (x.hard.log.map Ent.enc).length
abbrev rdW (x:Rft) (k:Nat):PV:=.ow k 0 (x.reads.map Rd.enc).length
abbrev repI (x:Rft) (out:List (List PV)):List PV:=repV x (snW x 9990) (lgW x 9991) (rdW x 9992) (.ow 9993 0 out.length)
abbrev snO (x:Rft):Option (Bool×Nat×List (List PV)):=some (false,1,x.hard.snap.map encB)
abbrev lgO (x:Rft):Option (Bool×Nat×List (List PV)):=some (false,16,x.hard.log.map Ent.enc)
abbrev rdO (x:Rft):Option (Bool×Nat×List (List PV)):=some (false,13,x.reads.map Rd.enc)
abbrev obI (x:Rft) (out:List (List PV)):List (Nat×Option (Bool×Nat×List (List PV))):=[(9990,snO x),(9991,lgO x),(9992,rdO x),(9993,some (false,16,out))]
theorem c_of (r : Rft) (h1 : r.hard.snap.length ≤ 4294967296) (h2 : r.hard.log.length ≤ 4294967296) (h3 : r.reads.length ≤ 4294967296) (hr : zbu r = true) :
    CtrE Tryz.prog 44 [.ag r.enc] [] [] (.tu [.pt 28 0,iv 0]) [(28,repV r (snW r 0) (lgW r 1) (rdW r 2) (.ow 3 0 0))] [(0,snO r),(1,lgO r),(2,rdO r),(3,some (false,16,[]))]:=by
 have k:=zud r (zad h2) (zad h3)
 rw [hr,if_pos rfl] at k
 refine zaj Tryz.func44 ?_;conv=>whnf
 refine tC k ?_
 refine tC (zcn r.hard.snap h1) ?_
 refine tN1 ?_
 refine tC (zb7 r.hard.log h2) ?_
 refine tN1 ?_
 refine tC (zf9 r.reads h3) ?_
 refine tN1 ?_
 refine zdv 28 40 3000 16 _ rfl rfl rfl ?_
 conv=>whnf
 exact eX [(0,208),(1,272),(2,320),(3,3000)]
theorem zse {h h':Hrd} (e1:h.base=h'.base) (e2:h.baseConf=h'.baseConf) (e3:h.log=h'.log) (u:Int):force h u=force h' u:=by
 have key:∀ n,fwd h u n=fwd h' u n:=by
  intro n
  induction n with
  | zero=>unfold fwd;rw [e1,e2]
  | succ n ih =>
   unfold fwd
   rw [e3,ih]
   have ei:idx h n=idx h' n:=by unfold idx;rw [e1]
   rw [ei]
 unfold force
 rw [e3,key]
theorem zwl {h h':Hrd} (e1:h.base=h'.base) (e3:h.log=h'.log):lastI h=lastI h':=by
 unfold lastI;rw [e1,e3]
theorem c_fall (r : Rft) (hm : r.hard.log.length ≤ maxLen) (out : List (List PV)) (term lead : Int) :
    CtrE Tryz.prog 118 [.pt 9990 0,iv term,iv lead] [(9990,repI r out)] (obI r out) (.tu [])
     [(9990,repV (fallR r term lead) (snW r 9990) (lgW r 9991) (.ow 2 0 0) (.ow 9993 0 out.length))] (obI r out++[(2,some (false,13,[]))]):=by
 have kc:=zdp { r with role:=0,lead:=lead,votes:=0,reads:=[],next:=zA,mtch:=zA,silent:=zA } hm
 have kd:=zl1 (zab r) r.id
 unfold fallR
 refine zaj Tryz.func118 ?_;conv=>whnf
 refine tO ?_
 refine tO ?_
 refine tCD kc ?_
 refine tC kd ?_
 refine tS ?_ ?_<;>intro h
 ·rw [if_pos (by omega)]
  refine zdv 9990 39 3000 13 _ rfl rfl rfl ?_
  conv=>whnf
  exact eX [(9990,9990),(9991,9991),(9992,9992),(9993,9993),(2,3000)]
 ·rw [if_neg (by omega)]
  refine zdv 9990 39 3000 13 _ rfl rfl rfl ?_
  conv=>whnf
  exact eX [(9990,9990),(9991,9991),(9992,9992),(9993,9993),(2,3000)]
theorem zym (r:Rft) (out:List (List PV)) (hid:0≤r.id∧r.id < 7):CtrE Tryz.prog 114 [.pt 9990 0] [(9990,repI r out)] (obI r out) (iv (shl 1 r.id)) [(9990,repI r out)] (obI r out):=by
 refine zaj Tryz.func114 ?_;conv=>whnf
 refine ⟨⟨by decide,hid.1⟩,?_⟩
 conv=>whnf
 exact eX [(9990,9990),(9991,9991),(9992,9992),(9993,9993)]
theorem zgq {id bits:Int}{i:Nat} (h:(i:Int) ≠ id) (ht:tb bits i=true):othN id bits (i+1)=othN id bits i++[(i:Int)]:=by
 unfold othN
 rw [List.range_succ,List.filter_append,List.map_append,List.filter_cons,if_pos (by simp [h,ht])];rfl
theorem zf1 {id bits:Int}{i:Nat} (h:(i:Int)=id∨tb bits i=false):othN id bits (i+1)=othN id bits i:=by
 unfold othN
 rw [List.range_succ,List.filter_append,List.map_append,List.filter_cons,if_neg (by rcases h with h | h<;>simp [h])];simp
theorem zc5 (id bits:Int) (i:Nat):(othN id bits i).length≤i:=by
 unfold othN
 rw [List.length_map]
 have:=List.length_filter_le (fun k:Nat=>decide ((k:Int) ≠ id) && tb bits k) (List.range i)
 rw [List.length_range] at this
 exact this
abbrev encI (n:Int):List PV:=[iv n]
theorem zob (r:Rft) (out:List (List PV)) (bits:Int):CtrE Tryz.prog 112 [.pt 9990 0,iv bits] [(9990,repI r out)] (obI r out) (.ow 1 0 ((othN r.id bits 7).map encI).length) [(9990,repI r out)] [(9990,snO r),(9991,lgO r),(9992,rdO r),(9993,some (false,16,out)),(1,some (false,1,(othN r.id bits 7).map encI))]:=by
 refine zaj Tryz.func112 ?_;conv=>whnf
 refine zs5 5 1002 1 rfl rfl ?_
 conv=>whnf
 refine tFor (fun i:Nat=>i≤7) (fun i=>[(7,iv i),(5,.ow 1002 0 ((othN r.id bits i).map encI).length)]) (fun _=>[(9990,repI r out)]) (fun i=>[(9990,snO r),(9991,lgO r),(9992,rdO r),(9993,some (false,16,out)),(1002,some (false,1,(othN r.id bits i).map encI))]) [(9990,9990),(9991,9991),(9992,9992),(9993,9993),(1002,1002)] (fun i=>7 - i) 0 (Nat.zero_le _) ?_ ?_
 ·exact wkE
 intro i hi
 have hl:=zc5 r.id bits i
 have hlm:((othN r.id bits i).map encI).length=(othN r.id bits i).length:=List.length_map ..
 refine tS ?_ ?_<;>intro h
 ·have hlt:i < 7:=by omega
  clear h
  have hb:iand .i64 (ishr .i64 bits (i:Int)) 1=nb (tb bits i):=zes bits i (by omega)
  refine tS ?_ ?_<;>intro h
  ·have hne:¬ (i:Int)=r.id:=h
   clear h
   refine tK2 ?_
   rw [hb]
   cases ht:tb bits i with
   | true =>
    have hy:=zgq hne ht
    have hy:(othN r.id bits (i+1)).map encI=(othN r.id bits i).map encI++[encI (i:Int)]:=by rw [hy,List.map_append];rfl
    conv=>whnf
    have b1:(((othN r.id bits i).map encI).length+1) * 8≤140737488355328:=by omega
    have b2:((othN r.id bits i).map encI).length+1≤maxLen:=zad (by omega)
    refine tAB b1 b2 ?_
    refine ⟨i+1,[(9990,9990),(9991,9991),(9992,9992),(9993,9993),(1002,432)],⟨by omega,by omega⟩,?_⟩
    rw [hy]
    exact wkB
   | false =>
    have hn:=zf1 (id:=r.id) (i:=i) (.inr ht)
    conv=>whnf
    refine ⟨i+1,[(9990,9990),(9991,9991),(9992,9992),(9993,9993),(1002,1002)],⟨by omega,by omega⟩,?_⟩
    rw [hn]
    exact wkE
  ·have he:(i:Int)=r.id:=by first | exact h | exact Classical.byContradiction h
   have hn:=zf1 (bits:=bits) (i:=i) (.inl he)
   clear h
   refine ⟨i+1,[(9990,9990),(9991,9991),(9992,9992),(9993,9993),(1002,1002)],⟨by omega,by omega⟩,?_⟩
   rw [hn]
   exact wkE
 ·have ei:i=7:=by omega
  subst ei
  exact eX [(9990,9990),(9991,9991),(9992,9992),(9993,9993),(1,1002)]
theorem z2m (r : Rft) (hm : r.hard.log.length ≤ maxLen) (out : List (List PV)) : CtrE Tryz.prog 181 [.pt 9990 0] [(9990, repI r out)] (obI r out) (.ow 1 0 ((othN r.id (bor (zab r).full (zab r).wit) 7).map encI).length) [(9990, repI r out)]
    [(9990,snO r),(9991,lgO r),(9992,rdO r),(9993,some (false,16,out)),(1,some (false,1,(othN r.id (bor (zab r).full (zab r).wit) 7).map encI))]:=by
 have kc:=zdp r hm
 have kv:=zoc (zab r)
 have ko:=zob r out (bor (zab r).full (zab r).wit)
 refine zaj Tryz.func181 ?_;conv=>whnf
 refine tO ?_
 refine tO ?_
 refine tO ?_
 refine tCE kc ?_
 refine tC kv ?_
 refine tE ([(9990,9990)],[(9990,9990),(9991,9991),(9992,9992),(9993,9993)],[(1,900)]) ko ?_
 exact eX [(9990,9990),(9991,9991),(9992,9992),(9993,9993),(1,900)]
abbrev msgV (k f t tm ix lt cm rd:Int) (y:Bool) (es:PV) (cf:Conf) (sn:PV):List PV:=[iv k,iv f,iv t,iv tm,iv ix,iv lt,iv cm,iv rd,bv y,es,iv cf.full,iv cf.wit,iv cf.learn,iv cf.lwit,sn,.nl]
abbrev repM (x:Rft) (out:List (List PV)):List PV:=repV x (snW x 9990) (lgW x 9991) (rdW x 9992) (.ow 1 0 out.length)
abbrev obM (x:Rft) (out:List (List PV)):List (Nat×Option (Bool×Nat×List (List PV))):=[(9990,snO x),(9991,lgO x),(9992,rdO x),(9993,none),(1,some (false,16,out))]
theorem zop (r : Rft) (out : List (List PV)) (ho : out.length ≤ 4294967) (k f t tm ix lt cm rd : Int) (y : Bool) (cf : Conf) (to term : Int) :
    CtrE Tryz.prog 121 [.pt 9990 0,.ag (msgV k f t tm ix lt cm rd y (.nl) cf (.nl)),iv to,iv term] [(9990,repI r out)] (obI r out) (.tu []) [(9990,repM r (out++[msgV k r.id to term ix lt cm rd y (.nl) cf (.nl)]))] (obM r (out++[msgV k r.id to term ix lt cm rd y (.nl) cf (.nl)])):=by
 have hget:∀ z:List PV,(List.take out.length out++[z])[0+((out.length:Nat):Int).toNat]?=some z:=fun z=>by
  rw [List.take_length,Nat.zero_add,Int.toNat_natCast,List.getElem?_append_right (Nat.le_refl _),Nat.sub_self];rfl
 have hset:∀ z u:List PV,(List.take out.length out++[z]).set (0+((out.length:Nat):Int).toNat) u=out++[u]:=fun z u=>by
  rw [List.take_length,Nat.zero_add,Int.toNat_natCast,List.set_append_right _ _ (Nat.le_refl _),Nat.sub_self];rfl
 have b1:(out.length+1) * 176≤140737488355328:=by omega
 have b2:out.length+1≤maxLen:=zad (by omega)
 refine zaj Tryz.func121 ?_;conv=>whnf
 refine tAB b1 b2 ?_
 refine ⟨⟨by omega,by first | omega | (simp only [List.length_cons,List.length_nil];omega)⟩,?_⟩
 conv=>whnf
 refine ⟨_,hget _,?_⟩
 conv=>whnf
 (refine zcm [(9990,9990),(9991,9991),(9992,9992),(9993,9993),(1,400)] [] ?_;(conv=>whnf);(refine tWK ?_;and_intros<;>try exact ⟨⟩))
 all_goals first | rfl | (refine zbi (by kernel_rfl) ?_;rw [hset];done) | (refine zbi (by kernel_rfl) ?_;rw [hset];rfl) | (simp only [List.length_append,List.length_cons,List.length_nil];done) | trace_state
abbrev repFI (x:Rft) (out:List (List PV)):List PV:=repV x (.sl 1 (x.hard.snap.map encB)) (.sl 16 (x.hard.log.map Ent.enc)) (rdW x 9990) (.ow 9991 0 out.length)
abbrev repFM (x:Rft) (out:List (List PV)):List PV:=repV x (.sl 1 (x.hard.snap.map encB)) (.sl 16 (x.hard.log.map Ent.enc)) (rdW x 9990) (.ow 1 0 out.length)
theorem ztt (r : Rft) (out : List (List PV)) (ho : out.length ≤ 4294967) (k f t tm ix lt cm rd : Int) (y : Bool) (cf : Conf) (to term : Int) :
    CtrE Tryz.prog 121 [.pt 9990 0,.ag (msgV k f t tm ix lt cm rd y (.nl) cf (.nl)),iv to,iv term] [(9990,repFI r out)] [(9990,rdO r),(9991,some (false,16,out))] (.tu []) [(9990,repFM r (out++[msgV k r.id to term ix lt cm rd y (.nl) cf (.nl)]))] [(9990,rdO r),(9991,none),(1,some (false,16,out++[msgV k r.id to term ix lt cm rd y (.nl) cf (.nl)]))]:=by
 have hget:∀ z:List PV,(List.take out.length out++[z])[0+((out.length:Nat):Int).toNat]?=some z:=fun z=>by
  rw [List.take_length,Nat.zero_add,Int.toNat_natCast,List.getElem?_append_right (Nat.le_refl _),Nat.sub_self];rfl
 have hset:∀ z u:List PV,(List.take out.length out++[z]).set (0+((out.length:Nat):Int).toNat) u=out++[u]:=fun z u=>by
  rw [List.take_length,Nat.zero_add,Int.toNat_natCast,List.set_append_right _ _ (Nat.le_refl _),Nat.sub_self];rfl
 have b1:(out.length+1) * 176≤140737488355328:=by omega
 have b2:out.length+1≤maxLen:=zad (by omega)
 refine zaj Tryz.func121 ?_;conv=>whnf
 refine tAB b1 b2 ?_
 refine ⟨⟨by omega,by first | omega | (simp only [List.length_cons,List.length_nil];omega)⟩,?_⟩
 conv=>whnf
 refine ⟨_,hget _,?_⟩
 conv=>whnf
 (refine zcm [(9990,9990),(9991,9991),(1,400)] [] ?_;(conv=>whnf);(refine tWK ?_;and_intros<;>try exact ⟨⟩))
 all_goals first | rfl | (refine zbi (by kernel_rfl) ?_;rw [hset];done) | (refine zbi (by kernel_rfl) ?_;rw [hset];rfl) | (simp only [List.length_append,List.length_cons,List.length_nil];done) | trace_state
theorem z4q (r : Rft) (out : List (List PV)) (ho : out.length ≤ 4294967) (k f t tm ix lt cm rd : Int) (y : Bool) (cf : Conf) (rows : List (List PV)) (to term : Int) :
    CtrE Tryz.prog 121 [.pt 9990 0,.ag (msgV k f t tm ix lt cm rd y (.sl 16 rows) cf (.nl)),iv to,iv term] [(9990,repFI r out)] [(9990,rdO r),(9991,some (false,16,out))] (.tu []) [(9990,repFM r (out++[msgV k r.id to term ix lt cm rd y (.sl 16 rows) cf (.nl)]))] [(9990,rdO r),(9991,none),(1,some (false,16,out++[msgV k r.id to term ix lt cm rd y (.sl 16 rows) cf (.nl)]))]:=by
 have hget:∀ z:List PV,(List.take out.length out++[z])[0+((out.length:Nat):Int).toNat]?=some z:=fun z=>by
  rw [List.take_length,Nat.zero_add,Int.toNat_natCast,List.getElem?_append_right (Nat.le_refl _),Nat.sub_self];rfl
 have hset:∀ z u:List PV,(List.take out.length out++[z]).set (0+((out.length:Nat):Int).toNat) u=out++[u]:=fun z u=>by
  rw [List.take_length,Nat.zero_add,Int.toNat_natCast,List.set_append_right _ _ (Nat.le_refl _),Nat.sub_self];rfl
 have b1:(out.length+1) * 176≤140737488355328:=by omega
 have b2:out.length+1≤maxLen:=zad (by omega)
 refine zaj Tryz.func121 ?_;conv=>whnf
 refine tAB b1 b2 ?_
 refine ⟨⟨by omega,by first | omega | (simp only [List.length_cons,List.length_nil];omega)⟩,?_⟩
 conv=>whnf
 refine ⟨_,hget _,?_⟩
 conv=>whnf
 (refine zcm [(9990,9990),(9991,9991),(1,400)] [] ?_;(conv=>whnf);(refine tWK ?_;and_intros<;>try exact ⟨⟩))
 all_goals first | rfl | (refine zbi (by kernel_rfl) ?_;rw [hset];done) | (refine zbi (by kernel_rfl) ?_;rw [hset];rfl) | (simp only [List.length_append,List.length_cons,List.length_nil];done) | trace_state
theorem z3q (r : Rft) (out : List (List PV)) (ho : out.length ≤ 4294967) (k f t tm ix lt cm rd : Int) (y : Bool) (cf : Conf) (rows : List (List PV)) (to term : Int) :
    CtrE Tryz.prog 121 [.pt 9990 0,.ag (msgV k f t tm ix lt cm rd y (.nl) cf (.sl 1 rows)),iv to,iv term] [(9990,repFI r out)] [(9990,rdO r),(9991,some (false,16,out))] (.tu []) [(9990,repFM r (out++[msgV k r.id to term ix lt cm rd y (.nl) cf (.sl 1 rows)]))] [(9990,rdO r),(9991,none),(1,some (false,16,out++[msgV k r.id to term ix lt cm rd y (.nl) cf (.sl 1 rows)]))]:=by
 have hget:∀ z:List PV,(List.take out.length out++[z])[0+((out.length:Nat):Int).toNat]?=some z:=fun z=>by
  rw [List.take_length,Nat.zero_add,Int.toNat_natCast,List.getElem?_append_right (Nat.le_refl _),Nat.sub_self];rfl
 have hset:∀ z u:List PV,(List.take out.length out++[z]).set (0+((out.length:Nat):Int).toNat) u=out++[u]:=fun z u=>by
  rw [List.take_length,Nat.zero_add,Int.toNat_natCast,List.set_append_right _ _ (Nat.le_refl _),Nat.sub_self];rfl
 have b1:(out.length+1) * 176≤140737488355328:=by omega
 have b2:out.length+1≤maxLen:=zad (by omega)
 refine zaj Tryz.func121 ?_;conv=>whnf
 refine tAB b1 b2 ?_
 refine ⟨⟨by omega,by first | omega | (simp only [List.length_cons,List.length_nil];omega)⟩,?_⟩
 conv=>whnf
 refine ⟨_,hget _,?_⟩
 conv=>whnf
 (refine zcm [(9990,9990),(9991,9991),(1,400)] [] ?_;(conv=>whnf);(refine tWK ?_;and_intros<;>try exact ⟨⟩))
 all_goals first | rfl | (refine zbi (by kernel_rfl) ?_;rw [hset];done) | (refine zbi (by kernel_rfl) ?_;rw [hset];rfl) | (simp only [List.length_append,List.length_cons,List.length_nil];done) | trace_state
abbrev askM (r:Rft) (kind term:Int) (i:Int):List PV:=msgV kind r.id i term (lastI r.hard) (lastT r.hard) 0 0 false .nl cz .nl
noncomputable def votL (r:Rft):List Int:=othN r.id (bor (zab r).full (zab r).wit) 7
theorem zqe (r : Rft) (hm : r.hard.log.length ≤ maxLen) (out : List (List PV)) (ho : out.length ≤ 4000000) (kind term : Int) :
    CtrE Tryz.prog 125 [.pt 9990 0,iv kind,iv term] [(9990,repI r out)] (obI r out) (.tu []) [(9990,repM r (out++(votL r).map (askM r kind term)))] (obM r (out++(votL r).map (askM r kind term))):=by
 have kl:=zc1 r.hard hm
 have kv:=z2m r hm out
 have hlen:(votL r).length≤7:=zc5 _ _ _
 have ks:=fun (o:List (List PV)) (ho:o.length≤4294967) (i:Int)=>zop r o ho kind 0 0 0 (lastI r.hard) (lastT r.hard) 0 0 false cz i term
 unfold votL at hlen ⊢
 generalize othN r.id (bor (zab r).full (zab r).wit) 7=vs at *
 have hvm:(vs.map encI).length=vs.length:=List.length_map ..
 refine zaj Tryz.func125 ?_;conv=>whnf
 refine tO ?_
 refine tO ?_
 refine tCE kl ?_
 refine tE ([(9990,9990)],[(9990,9990),(9991,9991),(9992,9992),(9993,9993)],[(1,901)]) kv ?_
 refine z1g 9993 2000 rfl rfl ?_
 conv=>whnf
 refine tFor (fun i:Nat=>i≤vs.length) (fun i=>[(22,iv i)]) (fun i=>[(9990,repV r (snW r 9990) (lgW r 9991) (rdW r 9992) (.ow 2000 0 (out++(vs.take i).map (askM r kind term)).length))]) (fun i=>[(9990,snO r),(9991,lgO r),(9992,rdO r),(9993,none),(901,some (false,1,vs.map encI)),(2000,some (false,16,out++(vs.take i).map (askM r kind term)))]) [(9990,9990),(9991,9991),(9992,9992),(9993,9993),(901,901),(2000,2000)] (fun i=>vs.length - i) 0 (Nat.zero_le _) ?_ ?_
 ·(refine tWK ?_;and_intros<;>try exact ⟨⟩)
  all_goals first | rfl | (refine zbi (by kernel_rfl) ?_;exact (List.append_nil _).symm) | exact (congrArg List.length (List.append_nil _)).symm | trace_state
 intro i hi
 have hol:(out++(vs.take i).map (askM r kind term)).length≤4294967:=by rw [List.length_append,List.length_map,List.length_take];omega
 refine tS ?_ ?_<;>intro h
 ·have hlt:i < vs.length:=by omega
  clear h
  have hrow:(vs.map encI)[0+((i:Nat):Int).toNat]?=some (encI (vs[i]'hlt)):=by
   rw [Nat.zero_add,Int.toNat_natCast,List.getElem?_map,List.getElem?_eq_getElem hlt];rfl
  have hsucc:out++(vs.take (i+1)).map (askM r kind term)=(out++(vs.take i).map (askM r kind term))++[askM r kind term (vs[i]'hlt)]:=by
   rw [List.take_succ_eq_append_getElem hlt,List.map_append,List.append_assoc];rfl
  have k:=ks _ hol (vs[i]'hlt)
  generalize vs[i]'hlt=v at *
  refine ⟨⟨by omega,by omega⟩,?_⟩
  conv=>whnf
  refine ⟨_,hrow,?_⟩
  conv=>whnf
  refine tE ([(9990,9990)],[(9990,9990),(9991,9991),(9992,9992),(9993,2000)],[(1,902)]) k ?_
  refine ⟨i+1,[(9990,9990),(9991,9991),(9992,9992),(9993,9993),(901,901),(2000,902)],⟨by omega,by omega⟩,?_⟩
  rw [hsucc]
  exact wkE
 ·have ei:i=vs.length:=by omega
  subst ei
  rw [List.take_length]
  exact eX [(9990,9990),(9991,9991),(9992,9992),(9993,9993),(1,2000)]
end Go.Proofs
