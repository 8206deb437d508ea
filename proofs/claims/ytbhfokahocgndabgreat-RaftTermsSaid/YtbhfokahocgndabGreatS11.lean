import Derived.Test.YtbhfokahocgndabGreatC1
import Derived.Test.YtbhfokahocgndabGreatS1
import Derived.Test.YtbhfokahocgndabGreatQ7
import Derived.Test.YtbhfokahocgndabGreatI1
/- Contracts of functions: the page's leader's tick. (genS11.py prints this) -/
set_option linter.unusedSimpArgs false
set_option linter.unusedVariables false
namespace Go.Proofs
open Go.Pv
set_option maxRecDepth 100000
noncomputable def nearB (id:Int) (s:Arr):Nat→Int
 | 0=>0
 | k+1=>if (k:Int)=id∨s.at k < 12 then bor (nearB id s k) (shl 1 k) else nearB id s k
theorem zpx (id:Int) (s:Arr):∀ k:Nat,k≤7→0≤nearB id s k∧nearB id s k < ((2 ^ k:Nat):Int)
 | 0,_=>by show (0:Int)≤0∧(0:Int) < ((2 ^ 0:Nat):Int);decide
 | k+1,h=>by
  have ih:=zpx id s k (by omega)
  have e2:((2 ^ (k+1):Nat):Int)=2 * ((2 ^ k:Nat):Int):=by rw [Nat.pow_succ];omega
  unfold nearB
  split
  ·rw [zmb (by omega) ih];omega
  ·omega
theorem zzx (id:Int) (s:Arr) {k:Nat} (hk:k < 7) (h:(k:Int)=id∨s.at k < 12):IntKind.i64.wrap (nearB id s k+shl 1 k)=nearB id s (k+1):=by
 have ih:=zpx id s k (by omega)
 have h2:2 ^ k≤2 ^ 6:=Nat.pow_le_pow_right (by decide) (by omega)
 have h3:(2:Nat) ^ 6=64:=by decide
 rw [show nearB id s (k+1)=bor (nearB id s k) (shl 1 k) from if_pos h,zmb (by omega) ih,zgd k (by omega)]
 exact zal (by omega) (by omega)
theorem zwd {n:Nat} (hn:n < 7) (s:Arr):∀ k:Nat,k≤7→∀ i,tb (nearB n s k) i=decide (i < k∧(i=n∨s.at i < 12))
 | 0,_,i=>by
  show tb 0 i=_
  rw [zet];simp
 | k+1,hk,i=>by
  have ih:=zwd hn s k (by omega) i
  unfold nearB
  split
  ·rename_i h
   rw [tb_or,ih,zga k i (by omega)]
   rw [Bool.eq_iff_iff]
   simp only [Bool.or_eq_true,decide_eq_true_eq]
   constructor
   ·rintro (h1 | h1)
    ·exact ⟨by omega,h1.2⟩
    ·subst h1;exact ⟨by omega,by rcases h with h | h;exact .inl (by omega);exact .inr h⟩
   ·rintro ⟨h1,h2⟩
    by_cases e:k=i
    ·exact .inr e
    ·exact .inl ⟨by omega,h2⟩
  ·rename_i h
   rw [ih,Bool.eq_iff_iff]
   simp only [decide_eq_true_eq]
   constructor
   ·rintro ⟨h1,h2⟩;exact ⟨by omega,h2⟩
   ·rintro ⟨h1,h2⟩
    refine ⟨?_,h2⟩
    by_cases e:i=k
    ·subst e;exact absurd (by rcases h2 with h2 | h2;exact .inl (by omega);exact .inr h2) h
    ·omega
theorem zqi {n:Nat} (hn:n < 7) (s:Arr):∀ k:Nat,k≤7→∀ i,tb (zde n s k) i=decide (i=n∨(i < k∧s.at i < 12))
 | 0,_,i=>by
  show tb (shl 1 n) i=_
  rw [zga n i (by omega),Bool.eq_iff_iff]
  simp only [decide_eq_true_eq]
  omega
 | k+1,hk,i=>by
  have ih:=zqi hn s k (by omega) i
  unfold zde
  split
  ·rename_i h
   rw [tb_or,ih,zga k i (by omega),Bool.eq_iff_iff]
   simp only [Bool.or_eq_true,decide_eq_true_eq]
   constructor
   ·rintro ((h1 | h1) | h1)
    ·exact .inl h1
    ·exact .inr ⟨by omega,h1.2⟩
    ·subst h1;exact .inr ⟨by omega,h.2⟩
   ·rintro (h1 | ⟨h1,h2⟩)
    ·exact .inl (.inl h1)
    ·by_cases e:k=i
     ·exact .inr e
     ·exact .inl (.inr ⟨by omega,h2⟩)
  ·rename_i h
   rw [ih,Bool.eq_iff_iff]
   simp only [decide_eq_true_eq]
   constructor
   ·rintro (h1 | ⟨h1,h2⟩)
    ·exact .inl h1
    ·exact .inr ⟨by omega,h2⟩
   ·rintro (h1 | ⟨h1,h2⟩)
    ·exact .inl h1
    ·by_cases e:i=k
     ·subst e
      by_cases e2:i=n
      ·exact .inl e2
      ·exact absurd ⟨by omega,h2⟩ h
     ·exact .inr ⟨by omega,h2⟩
theorem zo8 (c:Conf) {id:Int} (hid:0≤id∧id < 7) (s:Arr):zbb c (nearB id s 7)=zbb c (zde id s 7):=by
 obtain ⟨n,rfl⟩:∃ n:Nat,id=n:=⟨id.toNat,by omega⟩
 have h:∀ i,i < 7→tb (nearB n s 7) i=tb (zde n s 7) i:=fun i hi=>by
  rw [zwd (by omega) s 7 (by omega) i,zqi (by omega) s 7 (by omega) i,Bool.eq_iff_iff]
  simp only [decide_eq_true_eq]
  omega
 unfold zbb
 rw [zuh (x:=band (bor c.full c.wit) (nearB n s 7)) (y:=band (bor c.full c.wit) (zde n s 7)) fun i hi=>by rw [zee,zee,h i hi]]
theorem zqm (id bits:Int) (i:Nat):∀ {j:Nat},i≤j→∃ t,othN id bits j=othN id bits i++t
 | 0,h=>⟨[],by rw [show i=0 by omega,List.append_nil]⟩
 | j+1,h=>by
  by_cases e:i=j+1
  ·subst e;exact ⟨[],(List.append_nil _).symm⟩
  ·obtain ⟨t,ht⟩:=zqm id bits i (j:=j) (by omega)
   by_cases hy:(j:Int)=id∨tb bits j=false
   ·rw [zfl hy];exact ⟨t,ht⟩
   ·rw [zfu (fun e=>hy (.inl e)) (by cases h:tb bits j with | true=>rfl | false=>exact absurd (.inr h) hy),ht,List.append_assoc]
    exact ⟨_,rfl⟩
theorem now_yes {x:Rft}{id bits:Int}{k:Nat} (hk:k < 7) (hne:(k:Int) ≠ id) (ht:tb bits k=true) (hall:∀ v ∈ othN id bits k,nowP x v=false) (hp:nowP x k=true):nowL x (othN id bits 7)=[nowM x k]:=by
 obtain ⟨t,e⟩:=zqm id bits (k+1) (j:=7) (by omega)
 rw [e,zfu hne ht]
 have h1:(othN id bits k).find? (nowP x)=none:=List.find?_eq_none.2 fun v hv=>by rw [hall v hv];decide
 have h2:[(k:Int)].find? (nowP x)=some (k:Int):=by rw [List.find?_cons,hp]
 unfold nowL
 rw [List.find?_append,List.find?_append,h1,h2];rfl
theorem now_no {x:Rft}{id bits:Int}{k:Nat} (hall:∀ v ∈ othN id bits k,nowP x v=false) (h:(k:Int)=id∨tb bits k=false∨nowP x k=false):∀ v ∈ othN id bits (k+1),nowP x v=false:=by
 by_cases hy:(k:Int)=id∨tb bits k=false
 ·rw [zfl hy];exact hall
 ·have hp : nowP x k = false := by
    rcases h with h | h | h
    ·exact absurd (.inl h) hy
    ·exact absurd (.inr h) hy
    ·exact h
  rw [zfu (fun e=>hy (.inl e)) (by cases h:tb bits k with | true=>rfl | false=>exact absurd (.inr h) hy)]
  intro v hv
  rcases List.mem_append.1 hv with hv | hv
  ·exact hall v hv
  ·rw [List.mem_singleton.1 hv];exact hp
theorem zzs {x:Rft}{l:List Int} (hall:∀ v ∈ l,nowP x v=false):nowL x l=[]:=by
 unfold nowL
 rw [List.find?_eq_none.2 fun v hv=>by rw [hall v hv];decide]
theorem zzj {x:Rft} (hw:witB x=true) {k:Nat} (hk:k < 7) (ht:tb (zac x).full k=true):(k:Int) ≠ x.id:=by
 intro e
 unfold witB at hw
 rw [← e,zq6 _ hk,if_pos ht] at hw
 exact absurd (hw.symm.trans (by kernel_rfl)) (show ¬ true=false by decide)
set_option maxHeartbeats 16000000 in
theorem c_zbeat (r:Rft) (hf:Fit r):CtrE Tryz.prog 77 [.pt 1000000 0] [(1000000,r.enc)] [] (.sl 16 (beatO r)) [(1000000,(beatF r).enc)] []:=by
 have hb:=hf.base
 have hl0:=hf.log
 have hid:=hf.id
 have hR:=hf.round
 have hm:r.hard.log.length≤maxLen:=zak (by omega)
 have kc:=zb7 r hm
 have kl:=zb0 r.hard hm
 have kfc:=zi9 r.hard hm (lastI r.hard)
 have hgo:goB r=(zbb (zac r) (zde r.id (beatR r).silent 7) && (zcf (beatR r) || !decide ((force r.hard (lastI r.hard)).2≤r.commit))):=rfl
 have kq:=zg1 (zac r) (nearB r.id (beatR r).silent 7)
 rw [zo8 (zac r) hid] at kq
 have kfa:=zck (beatR r) hm r.hard.term (-1)
 have kvo:=zin (beatR r) hm
 have ksa:=zqz (beatR r) ⟨by show r.hard.log.length≤_;omega,hf.snap,hf.base,fun i hi=>by have:=hf.next i hi;show isI (r.next.at i);unfold isI;omega⟩
 have hall2:(allL (beatR r)).map (zba (beatR r))=(allL r).map (zba (beatR r)):=rfl
 rw [hall2] at ksa
 unfold beatF beatO
 have ka:=zum (zac r)
 have ko:=zhj (beat1 r) (bor (bor (bor (zac r).full (zac r).wit) (zac r).learn) (zac r).lwit)
 have kki:=zl8 (zac r) r.id
 rw [← zse] at kki
 have ew:IntKind.i64.wrap (r.round+1)=r.round+1:=zal (by omega) (by omega)
 have hlen:(allL r).length≤7:=zc4 _ _ _
 have hin:∀ v ∈ allL r,0≤v∧v < 7:=fun v hv=>zex hv
 have hvs:othN (beat1 r).id (bor (bor (bor (zac r).full (zac r).wit) (zac r).learn) (zac r).lwit) 7=allL r:=rfl
 rw [hvs] at ko
 have hom:(((allL r).map (zba (beatR r))).length+1) * 176≤140737488355328:=by rw [List.length_map];omega
 have hol:((allL r).map (zba (beatR r))).length+1≤maxLen:=zak (by rw [List.length_map];omega)
 generalize hot:(allL r).map (zba (beatR r))=ot at *
 generalize hvs2:allL r=vs at *
 have hvm:(vs.map encI).length=vs.length:=List.length_map ..
 refine zbe mixed Tryz.func77 rfl (by kernel_rfl) (by kernel_rfl) ?_
 refine tSeq ?_
 conv=>whnf
 refine tSeq ?_
 conv=>whnf
 ((try (refine Exists.intro none ?_;conv=>whnf));(with_reducible refine zaa (kc) ?_);conv=>whnf)
 refine tSeq ?_
 conv=>whnf
 rw [ew]
 conv=>whnf
 refine tSeq ?_
 conv=>whnf
 ((try (refine Exists.intro none ?_;conv=>whnf));(with_reducible refine zaa (ka) ?_);conv=>whnf)
 ((try ((refine Exists.intro none ?_);(conv=>whnf)));refine zai (ko) (by kernel_rfl) ?_;conv=>whnf)
 (refine tNew0 ?_;conv=>whnf)
 refine tSeq ?_
 conv=>whnf
 refine tFor (fun i:Nat=>i≤vs.length) (fun i=>[(5,iv i)]) (fun i=>[(1000000,({ beat1 r with silent:=silL r.silent (vs.take i) }:Rft).enc),(3,(zac r).enc)]) (fun _=>[]) [] (fun i=>vs.length - i) 0 (Nat.zero_le _) ?_ ?_
 ·conv=>whnf
  exact wkD
 intro i hi
 conv=>whnf
 (refine tSp (fun h=>?_) (fun h=>?_)<;>conv=>whnf)
 ·have hlt:i < vs.length:=by omega
  clear h
  have hrow:(vs.map encI)[((i:Nat):Int).toNat]?=some (encI (vs[i]'hlt)):=zbn hlt
  have hsucc:=znq r.silent hlt
  have hv:=hin _ (List.getElem_mem hlt)
  have hS:(silL r.silent (vs.take i)).fitF:=zf2 hf.silent fun w hw=>hin w (List.mem_of_mem_take hw)
  generalize vs[i]'hlt=v at *
  generalize hSd:silL r.silent (vs.take i)=S at *
  refine ⟨by omega,_,hrow,?_⟩
  conv=>whnf
  refine ⟨by omega,_,hrow,?_⟩
  conv=>whnf
  refine ⟨⟨hv.1,hv.2⟩,?_⟩
  have hsn:=hS v.toNat (by omega)
  have ewj:IntKind.i64.wrap (S.at v.toNat+1)=S.at v.toNat+1:=zal (by have:0≤S.at v.toNat∧S.at v.toNat≤1099511627776:=hsn;omega) (by have:0≤S.at v.toNat∧S.at v.toNat≤1099511627776:=hsn;omega)
  have hs1:sil1 S v=S.put v.toNat (farM (S.at v.toNat+1)):=rfl
  rcases zcm hv with e | e | e | e | e | e | e
  all_goals
   rw [e] at ewj hs1 hsn
   simp only [Arr.at] at ewj hs1 hsn
   rw [e]
   conv=>whnf
   refine ⟨⟨hv.1,hv.2⟩,?_⟩
   rw [e]
   conv=>whnf
   refine ⟨i+1,[],⟨by omega,by omega⟩,?_⟩
   rw [hsucc,hs1]
   conv=>whnf
   (refine wkx ?_;refine ⟨?_,?_,?_⟩<;>(conv=>whnf)<;>repeat' first | exact wkc | (with_reducible refine And.intro ?_ ?_)<;>first | exact wks | refine wko ?_ | refine wki ?_ | refine wkb ?_ | (refine zan ?_;conv=>whnf) | (refine zah ?_;conv=>whnf) | (refine zag ?_;conv=>whnf) | conv=>whnf)
   all_goals first | exact w1 (by omega) | rfl | (rw [ewj];rfl) | trace_state
 ·have ei:i=vs.length:=by omega
  subst ei
  clear h
  rw [List.take_length]
  conv=>whnf
  subst hvs2
  have hSf:(beatR r).silent.fitF:=zf2 hf.silent hin
  refine tSeq ?_
  conv=>whnf
  refine tSeq ?_
  conv=>whnf
  refine tFor (fun k:Nat=>k≤7) (fun k=>[(7,iv k),(6,iv (nearB r.id (beatR r).silent k))]) (fun _=>[(1000000,(beatR r).enc),(3,(zac r).enc)]) (fun _=>[]) [] (fun k=>7 - k) 0 (Nat.zero_le _) ?_ ?_
  ·conv=>whnf
   exact wkD
  intro k hk
  rcases (by have hk:k≤7:=hk;omega:k < 7∨k=7) with hk7 | rfl
  ·have hn1:¬ (((k:Nat):Int)=r.id∨(beatR r).silent.at k < 12)→nearB r.id (beatR r).silent (k+1)=nearB r.id (beatR r).silent k:=fun a=>if_neg a
   have hy1:=fun a=>zzx r.id (beatR r).silent hk7 a
   generalize nearB r.id (beatR r).silent k=w0 at *
   generalize hw1:nearB r.id (beatR r).silent (k+1)=w1' at *
   obtain ⟨kk,ekk⟩:∃ kk,kk=k+1:=⟨_,rfl⟩
   rcases (by omega:k=0∨k=1∨k=2∨k=3∨k=4∨k=5∨k=6) with rfl | rfl | rfl | rfl | rfl | rfl | rfl
   all_goals
    conv=>whnf
    (refine tSp (fun h=>?_) (fun h=>?_)<;>conv=>whnf)
    ·have e:=hy1 (.inl h)
     ((with_reducible refine And.intro (And.intro (by first | decide | omega) (by first | decide | omega)) ?_);conv=>whnf)
     refine ⟨kk,[],⟨by show kk≤7;omega,by show 7 - kk < 7 - _;omega⟩,?_⟩
     subst ekk
     conv=>whnf
     (refine wkx ?_;refine ⟨?_,?_,?_⟩<;>(conv=>whnf)<;>repeat' first | exact wkc | (with_reducible refine And.intro ?_ ?_)<;>first | exact wks | refine wko ?_ | refine wki ?_ | refine wkb ?_ | (refine zan ?_;conv=>whnf) | (refine zah ?_;conv=>whnf) | (refine zag ?_;conv=>whnf) | conv=>whnf)
     all_goals first | rfl | exact e.trans hw1.symm | trace_state
    ·have h1:=h
     clear h
     refine ⟨⟨by decide,by decide⟩,?_⟩
     conv=>whnf
     (refine tSp (fun h=>?_) (fun h=>?_)<;>conv=>whnf)
     ·have e:=hy1 (.inr h)
      ((with_reducible refine And.intro (And.intro (by first | decide | omega) (by first | decide | omega)) ?_);conv=>whnf)
      refine ⟨kk,[],⟨by show kk≤7;omega,by show 7 - kk < 7 - _;omega⟩,?_⟩
      subst ekk
      conv=>whnf
      (refine wkx ?_;refine ⟨?_,?_,?_⟩<;>(conv=>whnf)<;>repeat' first | exact wkc | (with_reducible refine And.intro ?_ ?_)<;>first | exact wks | refine wko ?_ | refine wki ?_ | refine wkb ?_ | (refine zan ?_;conv=>whnf) | (refine zah ?_;conv=>whnf) | (refine zag ?_;conv=>whnf) | conv=>whnf)
      all_goals first | rfl | exact e.trans hw1.symm | trace_state
     ·have e:=hn1 (fun a=>a.elim h1 h)
      refine ⟨kk,[],⟨by show kk≤7;omega,by show 7 - kk < 7 - _;omega⟩,?_⟩
      subst ekk
      conv=>whnf
      (refine wkx ?_;refine ⟨?_,?_,?_⟩<;>(conv=>whnf)<;>repeat' first | exact wkc | (with_reducible refine And.intro ?_ ?_)<;>first | exact wks | refine wko ?_ | refine wki ?_ | refine wkb ?_ | (refine zan ?_;conv=>whnf) | (refine zah ?_;conv=>whnf) | (refine zag ?_;conv=>whnf) | conv=>whnf)
      all_goals first | rfl | exact e.symm.trans hw1.symm | trace_state
  ·conv=>whnf
   refine tSeq ?_
   conv=>whnf
   ((try (refine Exists.intro none ?_;conv=>whnf));(with_reducible refine zaa (kl) ?_);conv=>whnf)
   refine tSeq ?_
   conv=>whnf
   ((try (refine Exists.intro none ?_;conv=>whnf));(with_reducible refine zaa (kfc) ?_);conv=>whnf)
   refine tCut (fun _:Unit=>goB r=true) (fun _=>[]) (fun _=>[(1000000,(beatR r).enc),(3,(zac r).enc),(10,(force r.hard (lastI r.hard)).1.enc)]) (fun _=>[]) ?_ ?_
   ·conv=>whnf
    cases hq:zbb (zac r) (zde r.id (beatR r).silent 7) with
    | false =>
     rw [hq] at kq
     have hg:goB r=false:=by rw [hgo,hq];rfl
     rw [hg,if_neg (show ¬ false=true by decide),if_neg (show ¬ false=true by decide)]
     ((try (refine Exists.intro none ?_;conv=>whnf));(with_reducible refine zaa (kq) ?_);conv=>whnf)
     ((refine Exists.intro (some ([(1000000,1000000)],[],[])) ?_);(conv=>whnf);refine zax (kfa) (by kernel_rfl) (by kernel_rfl) (by kernel_rfl) ?_;conv=>whnf)
     (refine zae [] [] ?_;(conv=>whnf);exact wkD)
    | true =>
     rw [hq] at kq
     cases hv:zcf (beatR r) with
     | true =>
      have hg:goB r=true:=by rw [hgo,hq,hv];rfl
      rw [show bitB (bor (zac (beatR r)).full (zac (beatR r)).wit) (beatR r).id=true from hv] at kvo
      ((try (refine Exists.intro none ?_;conv=>whnf));(with_reducible refine zaa (kq) ?_);conv=>whnf)
      ((try ((refine Exists.intro none ?_);(conv=>whnf)));refine zai (kvo) (by kernel_rfl) ?_;conv=>whnf)
      refine ⟨(),[],hg,?_⟩
      conv=>whnf
      exact wkD
     | false =>
      rw [show bitB (bor (zac (beatR r)).full (zac (beatR r)).wit) (beatR r).id=false from hv] at kvo
      by_cases hat:(force r.hard (lastI r.hard)).2≤r.commit
      ·have hg:goB r=false:=by rw [hgo,hq,hv,decide_eq_true hat];rfl
       rw [hg,if_neg (show ¬ false=true by decide),if_neg (show ¬ false=true by decide)]
       ((try (refine Exists.intro none ?_;conv=>whnf));(with_reducible refine zaa (kq) ?_);conv=>whnf)
       ((try ((refine Exists.intro none ?_);(conv=>whnf)));refine zai (kvo) (by kernel_rfl) ?_;conv=>whnf)
       (first | refine tYes ?_ | refine tNo ?_)
       conv=>whnf
       ((refine Exists.intro (some ([(1000000,1000000)],[],[])) ?_);(conv=>whnf);refine zax (kfa) (by kernel_rfl) (by kernel_rfl) (by kernel_rfl) ?_;conv=>whnf)
       (refine zae [] [] ?_;(conv=>whnf);exact wkD)
      ·have hg:goB r=true:=by rw [hgo,hq,hv,decide_eq_false hat];rfl
       ((try (refine Exists.intro none ?_;conv=>whnf));(with_reducible refine zaa (kq) ?_);conv=>whnf)
       ((try ((refine Exists.intro none ?_);(conv=>whnf)));refine zai (kvo) (by kernel_rfl) ?_;conv=>whnf)
       (first | refine tYes ?_ | refine tNo ?_)
       conv=>whnf
       refine ⟨(),[],hg,?_⟩
       conv=>whnf
       exact wkD
   rintro _ hg
   rw [if_pos hg,if_pos hg]
   conv=>whnf
   refine tSeq ?_
   conv=>whnf
   ((try ((refine Exists.intro none ?_);(conv=>whnf)));refine zai (ksa) (by kernel_rfl) ?_;conv=>whnf)
   (refine Exists.intro _ (And.intro rfl (And.intro (by intro q hq;first | (cases hq;done) | (simp only [List.mem_cons,List.not_mem_nil,or_false] at hq;rcases hq with rfl | rfl<;>(simp only [List.length_cons,List.length_nil];omega)) | (simp only [List.mem_cons,List.not_mem_nil,or_false] at hq;subst hq;simp only [List.length_cons,List.length_nil];omega)) (And.intro (by intro i hi;simp only [List.length_cons,List.length_nil,Nat.lt_one_iff,Nat.zero_add] at hi;subst hi;rfl) ?_)));conv=>whnf)
   refine tSeq ?_
   conv=>whnf
   ((try (refine Exists.intro none ?_;conv=>whnf));(with_reducible refine zaa (kki) ?_);conv=>whnf)
   cases hw:witB (beatR r) with
   | false =>
    have hw2:((kindR (zac r) r.id).toList == (ByteArray.mk #[119,105,116]).toList)=false:=hw
    have hno:nowO (beatR r)=[]:=by unfold nowO;rw [hw];rfl
    rw [hno,List.append_nil]
    (first | refine tYes ?_ | refine tNo ?_)
    conv=>whnf
    (refine zae [] [(2048,false,16,ot)] ?_;(conv=>whnf);(refine And.intro (And.intro (by with_unfolding_all rfl) (by intro q hq;rw [List.mem_singleton.1 hq];first | rfl | exact congrArg (fun x=>some (some x)) (zaz (b:=false) (by kernel_rfl) (by first | (rw [List.take_of_length_le (Nat.le_refl _)];done) | (rw [List.take_of_length_le (Nat.le_refl _)];rfl))))) ?_;refine And.intro ?_ (And.intro ?_ ?_)<;>(conv=>whnf)<;>(repeat' (first | exact True.intro | (with_reducible exact rfl) | exact (rfl:List.replicate 0 PV.bad=[]) | ((with_reducible refine And.intro ?_ ?_)<;>(first | (with_reducible exact zaj _ rfl) | exact zbw (b:=false) (List.Mem.head _) rfl | exact znz rfl rfl | exact zbj rfl rfl rfl | (refine zbj rfl rfl ?_) | (refine zf7 (congrArg (Value.int .i64) ?_)) | (refine zf7 (congrArg Value.bool ?_)) | exact zn8 rfl | ((refine zan ?_);conv=>whnf) | ((refine zah ?_);conv=>whnf) | ((refine zag ?_);conv=>whnf) | (conv=>whnf)))))))
    all_goals first | rfl | exact .inl rfl | trace_state
   | true =>
    have hw2:((kindR (zac r) r.id).toList == (ByteArray.mk #[119,105,116]).toList)=true:=hw
    have hno:nowO (beatR r)=nowL (beatR r) (othN r.id (zac r).full 7):=by unfold nowO;rw [hw];rfl
    rw [hno]
    (first | refine tYes ?_ | refine tNo ?_)
    conv=>whnf
    refine tSeq ?_
    conv=>whnf
    refine tFor (fun k:Nat=>k≤7∧∀ v ∈ othN r.id (zac r).full k,nowP (beatR r) v=false) (fun k=>[(13,iv k)]) (fun _=>[(1000000,(beatR r).enc),(3,(zac r).enc),(10,(force r.hard (lastI r.hard)).1.enc)]) (fun _=>[(2048,some (false,16,ot))]) [(2048,2048)] (fun k=>7 - k) 0 ⟨Nat.zero_le _,fun v hv=>absurd hv (List.not_mem_nil)⟩ ?_ ?_
    ·conv=>whnf
     exact wkD
    rintro k ⟨hk,hal⟩
    rcases (by have hk:k≤7:=hk;omega:k < 7∨k=7) with hk7 | rfl
    ·have kh:=c_Has (zac r).full k
     have hnext:(((k:Nat):Int)=r.id∨tb (zac r).full k=false∨nowP (beatR r) ((k:Nat):Int)=false)→∀ v ∈ othN r.id (zac r).full (k+1),nowP (beatR r) v=false:=fun h=>now_no hal h
     have hdef:nowP (beatR r) ((k:Nat):Int)=(decide ((beatR r).mtch.at k=lastI r.hard) && decide ((beatR r).silent.at k < 6)):=rfl
     have hwi:zap (k:Int) 0 6=true:=by simp [zap];omega
     obtain ⟨kk,ekk⟩:∃ kk,kk=k+1:=⟨_,rfl⟩
     cases ht:tb (zac r).full k with
     | false =>
      rw [show hasB (zac r).full k=false from (zhw hwi).trans ((ztp hk7 _).trans ht)] at kh
      have hp:=hnext (.inr (.inl ht))
      rcases (by omega:k=0∨k=1∨k=2∨k=3∨k=4∨k=5∨k=6) with rfl | rfl | rfl | rfl | rfl | rfl | rfl
      all_goals
       conv=>whnf
       ((try (refine Exists.intro none ?_;conv=>whnf));(with_reducible refine zaa (kh) ?_);conv=>whnf)
       refine ⟨kk,[(2048,2048)],⟨⟨by show kk≤7;omega,by show ∀ v ∈ othN r.id (zac r).full kk,_;rw [ekk];exact hp⟩,by show 7 - kk < 7 - _;omega⟩,?_⟩
       subst ekk
       conv=>whnf
       exact wkD
     | true =>
      rw [show hasB (zac r).full k=true from (zhw hwi).trans ((ztp hk7 _).trans ht)] at kh
      have hyes:(beatR r).mtch.at k=lastI r.hard→(beatR r).silent.at k < 6→nowL (beatR r) (othN r.id (zac r).full 7)=[nowM (beatR r) ((k:Nat):Int)]:=fun h1 h2=>now_yes hk7 (zzj (x:=beatR r) hw hk7 ht) ht hal (by rw [hdef,decide_eq_true h1,decide_eq_true h2];rfl)
      have hno1:¬ (beatR r).mtch.at k=lastI r.hard→∀ v ∈ othN r.id (zac r).full (k+1),nowP (beatR r) v=false:=fun h1=>hnext (.inr (.inr (by rw [hdef,decide_eq_false h1,Bool.false_and])))
      have hno2:¬ (beatR r).silent.at k < 6→∀ v ∈ othN r.id (zac r).full (k+1),nowP (beatR r) v=false:=fun h2=>hnext (.inr (.inr (by rw [hdef,decide_eq_false h2,Bool.and_false])))
      clear hnext hdef
      rcases (by omega:k=0∨k=1∨k=2∨k=3∨k=4∨k=5∨k=6) with rfl | rfl | rfl | rfl | rfl | rfl | rfl
      all_goals
       conv=>whnf
       ((try (refine Exists.intro none ?_;conv=>whnf));(with_reducible refine zaa (kh) ?_);conv=>whnf)
       refine ⟨⟨by decide,by decide⟩,?_⟩
       conv=>whnf
       (refine tSp (fun h=>?_) (fun h=>?_)<;>conv=>whnf)
       ·have h1:=h
        clear h
        refine ⟨⟨by decide,by decide⟩,?_⟩
        conv=>whnf
        (refine tSp (fun h=>?_) (fun h=>?_)<;>conv=>whnf)
        ·rw [hyes h1 h]
         (refine And.intro rfl ?_;(conv=>whnf);refine And.intro (And.intro (And.intro (by kernel_rfl) (And.intro (Nat.le_refl _) (And.intro (hom) (And.intro (hol) (by intro r hr;rw [List.mem_singleton.1 hr];rfl))))) (And.intro (by decide) rfl)) ?_;conv=>whnf)
         (refine zae [] [(177 * 16,false,16,ot++[nowM (beatR r) ((kk - 1:Nat):Int)])] ?_;subst ekk;(conv=>whnf);(refine And.intro (And.intro (by with_unfolding_all rfl) (by intro q hq;rw [List.mem_singleton.1 hq];first | rfl | exact congrArg (fun x=>some (some x)) (zaz (b:=false) (by kernel_rfl) (by first | (rw [List.take_of_length_le (Nat.le_refl _)];done) | (rw [List.take_of_length_le (Nat.le_refl _)];rfl))))) ?_;refine And.intro ?_ (And.intro ?_ ?_)<;>(conv=>whnf)<;>(repeat' (first | exact True.intro | (with_reducible exact rfl) | exact (rfl:List.replicate 0 PV.bad=[]) | ((with_reducible refine And.intro ?_ ?_)<;>(first | (with_reducible exact zaj _ rfl) | exact zbw (b:=false) (List.Mem.head _) List.length_append.symm | exact znz rfl rfl | exact zbj rfl rfl rfl | (refine zbj rfl rfl ?_) | (refine zf7 (congrArg (Value.int .i64) ?_)) | (refine zf7 (congrArg Value.bool ?_)) | exact zn8 rfl | ((refine zan ?_);conv=>whnf) | ((refine zah ?_);conv=>whnf) | ((refine zag ?_);conv=>whnf) | (conv=>whnf)))))))
         all_goals first | rfl | exact .inl rfl | trace_state
        ·have hp:=hno2 h
         refine ⟨kk,[(2048,2048)],⟨⟨by show kk≤7;omega,by show ∀ v ∈ othN r.id (zac r).full kk,_;rw [ekk];exact hp⟩,by show 7 - kk < 7 - _;omega⟩,?_⟩
         subst ekk
         conv=>whnf
         exact wkD
       ·have hp:=hno1 h
        refine ⟨kk,[(2048,2048)],⟨⟨by show kk≤7;omega,by show ∀ v ∈ othN r.id (zac r).full kk,_;rw [ekk];exact hp⟩,by show 7 - kk < 7 - _;omega⟩,?_⟩
        subst ekk
        conv=>whnf
        exact wkD
    ·rw [zzs hal,List.append_nil]
     conv=>whnf
     refine pwS ?_
     conv=>whnf
     (refine zae [] [(2048,false,16,ot)] ?_;(conv=>whnf);(refine And.intro (And.intro (by with_unfolding_all rfl) (by intro q hq;rw [List.mem_singleton.1 hq];first | rfl | exact congrArg (fun x=>some (some x)) (zaz (b:=false) (by kernel_rfl) (by first | (rw [List.take_of_length_le (Nat.le_refl _)];done) | (rw [List.take_of_length_le (Nat.le_refl _)];rfl))))) ?_;refine And.intro ?_ (And.intro ?_ ?_)<;>(conv=>whnf)<;>(repeat' (first | exact True.intro | (with_reducible exact rfl) | exact (rfl:List.replicate 0 PV.bad=[]) | ((with_reducible refine And.intro ?_ ?_)<;>(first | (with_reducible exact zaj _ rfl) | exact zbw (b:=false) (List.Mem.head _) rfl | exact znz rfl rfl | exact zbj rfl rfl rfl | (refine zbj rfl rfl ?_) | (refine zf7 (congrArg (Value.int .i64) ?_)) | (refine zf7 (congrArg Value.bool ?_)) | exact zn8 rfl | ((refine zan ?_);conv=>whnf) | ((refine zah ?_);conv=>whnf) | ((refine zag ?_);conv=>whnf) | (conv=>whnf)))))))
     all_goals first | rfl | exact .inl rfl | trace_state
end Go.Proofs
