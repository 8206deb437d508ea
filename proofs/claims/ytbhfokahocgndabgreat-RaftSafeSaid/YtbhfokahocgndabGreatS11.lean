import Derived.Test.YtbhfokahocgndabGreatPvQ3
import Derived.Test.YtbhfokahocgndabGreatS1
import Derived.Test.YtbhfokahocgndabGreatQ7
import Derived.Test.YtbhfokahocgndabGreatI8
/- Contracts of functions: the page's leader's tick. (genS11.py prints this) -/
set_option linter.unusedSimpArgs false
set_option linter.unusedVariables false
set_option maxHeartbeats 16000000
namespace Go.Proofs
open Go.Pv
set_option maxRecDepth 100000
noncomputable def nearB (id:Int) (s:Arr):Nat→Int
 | 0=>0
 | k+1=>if (k:Int)=id∨s.at k < 12 then bor (nearB id s k) (shl 1 k) else nearB id s k
theorem zu6 (id:Int) (s:Arr):∀ k:Nat,k≤7→0≤nearB id s k∧nearB id s k < ((2 ^ k:Nat):Int)
 | 0,_=>by show (0:Int)≤0∧(0:Int) < ((2 ^ 0:Nat):Int);decide
 | k+1,h=>by
  have ih:=zu6 id s k (by omega)
  have e2:((2 ^ (k+1):Nat):Int)=2 * ((2 ^ k:Nat):Int):=by rw [Nat.pow_succ];omega
  unfold nearB
  split
  ·rw [zn0 (by omega) ih];omega
  ·omega
theorem z4p (id:Int) (s:Arr) {k:Nat} (hk:k < 7) (h:(k:Int)=id∨s.at k < 12):IntKind.i64.wrap (nearB id s k+shl 1 k)=nearB id s (k+1):=by
 have ih:=zu6 id s k (by omega)
 have h2:2 ^ k≤2 ^ 6:=Nat.pow_le_pow_right (by decide) (by omega)
 have h3:(2:Nat) ^ 6=64:=by decide
 rw [show nearB id s (k+1)=bor (nearB id s k) (shl 1 k) from if_pos h,zn0 (by omega) ih,zhp k (by omega)]
 exact zaf (by omega) (by omega)
theorem zxt {n:Nat} (hn:n < 7) (s:Arr):∀ k:Nat,k≤7→∀ i,tb (nearB n s k) i=decide (i < k∧(i=n∨s.at i < 12))
 | 0,_,i=>by
  show tb 0 i=_
  rw [ze9];simp
 | k+1,hk,i=>by
  have ih:=zxt hn s k (by omega) i
  unfold nearB
  split
  ·rename_i h
   rw [tb_or,ih,ze1 k i (by omega)]
   rw [Bool.eq_iff_iff]
   simp only [Bool.or_eq_true,decide_eq_true_eq]
   constructor
   ·rintro (h1 | h1)
    ·exact ⟨by omega,h1.2⟩
    ·subst h1;exact ⟨by omega,by rcases h with h | h;exact .inl (by omega);exact .inr h⟩
   ·rintro ⟨h1,h2⟩
    by_cases e:k=i
    ·exact .inr e
    ·exact .inl ⟨by omega,h2⟩
  ·rename_i h
   rw [ih,Bool.eq_iff_iff]
   simp only [decide_eq_true_eq]
   constructor
   ·rintro ⟨h1,h2⟩;exact ⟨by omega,h2⟩
   ·rintro ⟨h1,h2⟩
    refine ⟨?_,h2⟩
    by_cases e:i=k
    ·subst e;exact absurd (by rcases h2 with h2 | h2;exact .inl (by omega);exact .inr h2) h
    ·omega
theorem ztv {n:Nat} (hn:n < 7) (s:Arr):∀ k:Nat,k≤7→∀ i,tb (zds n s k) i=decide (i=n∨(i < k∧s.at i < 12))
 | 0,_,i=>by
  show tb (shl 1 n) i=_
  rw [ze1 n i (by omega),Bool.eq_iff_iff]
  simp only [decide_eq_true_eq]
  omega
 | k+1,hk,i=>by
  have ih:=ztv hn s k (by omega) i
  unfold zds
  split
  ·rename_i h
   rw [tb_or,ih,ze1 k i (by omega),Bool.eq_iff_iff]
   simp only [Bool.or_eq_true,decide_eq_true_eq]
   constructor
   ·rintro ((h1 | h1) | h1)
    ·exact .inl h1
    ·exact .inr ⟨by omega,h1.2⟩
    ·subst h1;exact .inr ⟨by omega,h.2⟩
   ·rintro (h1 | ⟨h1,h2⟩)
    ·exact .inl (.inl h1)
    ·by_cases e:k=i
     ·exact .inr e
     ·exact .inl (.inr ⟨by omega,h2⟩)
  ·rename_i h
   rw [ih,Bool.eq_iff_iff]
   simp only [decide_eq_true_eq]
   constructor
   ·rintro (h1 | ⟨h1,h2⟩)
    ·exact .inl h1
    ·exact .inr ⟨by omega,h2⟩
   ·rintro (h1 | ⟨h1,h2⟩)
    ·exact .inl h1
    ·by_cases e:i=k
     ·subst e
      by_cases e2:i=n
      ·exact .inl e2
      ·exact absurd ⟨by omega,h2⟩ h
     ·exact .inr ⟨by omega,h2⟩
theorem zsh (c:Conf) {id:Int} (hid:0≤id∧id < 7) (s:Arr):zak c (nearB id s 7)=zak c (zds id s 7):=by
 obtain ⟨n,rfl⟩:∃ n:Nat,id=n:=⟨id.toNat,by omega⟩
 have h:∀ i,i < 7→tb (nearB n s 7) i=tb (zds n s 7) i:=fun i hi=>by
  rw [zxt (by omega) s 7 (by omega) i,ztv (by omega) s 7 (by omega) i,Bool.eq_iff_iff]
  simp only [decide_eq_true_eq]
  omega
 unfold zak
 rw [zzz (x:=band (bor c.full c.wit) (nearB n s 7)) (y:=band (bor c.full c.wit) (zds n s 7)) fun i hi=>by rw [zdr,zdr,h i hi]]
theorem zu9 (id bits:Int) (i:Nat):∀ {j:Nat},i≤j→∃ t,othN id bits j=othN id bits i++t
 | 0,h=>⟨[],by rw [show i=0 by omega,List.append_nil]⟩
 | j+1,h=>by
  by_cases e:i=j+1
  ·subst e;exact ⟨[],(List.append_nil _).symm⟩
  ·obtain ⟨t,ht⟩:=zu9 id bits i (j:=j) (by omega)
   by_cases hy:(j:Int)=id∨tb bits j=false
   ·rw [zf1 hy];exact ⟨t,ht⟩
   ·rw [zgq (fun e=>hy (.inl e)) (by cases h:tb bits j with | true=>rfl | false=>exact absurd (.inr h) hy),ht,List.append_assoc]
    exact ⟨_,rfl⟩
theorem now_yes {x:Rft}{id bits:Int}{k:Nat} (hk:k < 7) (hne:(k:Int) ≠ id) (ht:tb bits k=true) (hall:∀ v ∈ othN id bits k,nowP x v=false) (hp:nowP x k=true):nowL x (othN id bits 7)=[nowM x k]:=by
 obtain ⟨t,e⟩:=zu9 id bits (k+1) (j:=7) (by omega)
 rw [e,zgq hne ht]
 have h1:(othN id bits k).find? (nowP x)=none:=List.find?_eq_none.2 fun v hv=>by rw [hall v hv];decide
 have h2:[(k:Int)].find? (nowP x)=some (k:Int):=by rw [List.find?_cons,hp]
 unfold nowL
 rw [List.find?_append,List.find?_append,h1,h2];rfl
theorem now_no {x:Rft}{id bits:Int}{k:Nat} (hall:∀ v ∈ othN id bits k,nowP x v=false) (h:(k:Int)=id∨tb bits k=false∨nowP x k=false):∀ v ∈ othN id bits (k+1),nowP x v=false:=by
 by_cases hy:(k:Int)=id∨tb bits k=false
 ·rw [zf1 hy];exact hall
 ·have hp : nowP x k = false := by
    rcases h with h | h | h
    ·exact absurd (.inl h) hy
    ·exact absurd (.inr h) hy
    ·exact h
  rw [zgq (fun e=>hy (.inl e)) (by cases h:tb bits k with | true=>rfl | false=>exact absurd (.inr h) hy)]
  intro v hv
  rcases List.mem_append.1 hv with hv | hv
  ·exact hall v hv
  ·rw [List.mem_singleton.1 hv];exact hp
theorem z4k {x:Rft}{l:List Int} (hall:∀ v ∈ l,nowP x v=false):nowL x l=[]:=by
 unfold nowL
 rw [List.find?_eq_none.2 fun v hv=>by rw [hall v hv];decide]
theorem z25 {x:Rft} (hw:witB x=true) {k:Nat} (hk:k < 7) (ht:tb (zab x).full k=true):(k:Int) ≠ x.id:=by
 intro e
 unfold witB at hw
 rw [← e,zuw _ hk,if_pos ht] at hw
 exact absurd (hw.symm.trans (by kernel_rfl)) (show ¬ true=false by decide)
theorem c_zbeat (r:Rft) (hf:Fit r):CtrE Tryz.prog 77 [.pt 9990 0] [(9990,r.enc)] [] (.sl 16 (beatO r)) [(9990,(beatF r).enc)] []:=by
 have hb:=hf.base
 have hl0:=hf.log
 have hid:=hf.id
 have hR:=hf.round
 have hm:r.hard.log.length≤maxLen:=zad (by omega)
 have kc:=zb6 r hm
 have kl:=zbr r.hard hm
 have kfc:=zk2 r.hard hm (lastI r.hard)
 have hgo:goB r=(zak (zab r) (zds r.id (beatR r).silent 7) && (zbx (beatR r) || !decide ((force r.hard (lastI r.hard)).2≤r.commit))):=rfl
 have kq:=zh7 (zab r) (nearB r.id (beatR r).silent 7)
 rw [zsh (zab r) hid] at kq
 have kfa:=zcq (beatR r) hm r.hard.term (-1)
 have kvo:=zj1 (beatR r) hm
 have ksa:=zuv (beatR r) ⟨by show r.hard.log.length≤_;omega,hf.snap,hf.base,fun i hi=>by have:=hf.next i hi;show isI (r.next.at i);unfold isI;omega⟩
 have hall2:(allL (beatR r)).map (zar (beatR r))=(allL r).map (zar (beatR r)):=rfl
 rw [hall2] at ksa
 unfold beatF beatO
 have ka:=zyv (zab r)
 have ko:=zjb (beat1 r) (bor (bor (bor (zab r).full (zab r).wit) (zab r).learn) (zab r).lwit)
 have kki:=zn4 (zab r) r.id
 rw [← zmj] at kki
 have ew:IntKind.i64.wrap (r.round+1)=r.round+1:=zaf (by omega) (by omega)
 have hlen:(allL r).length≤7:=zc5 _ _ _
 have hin:∀ v ∈ allL r,0≤v∧v < 7:=fun v hv=>zfl hv
 have hvs:othN (beat1 r).id (bor (bor (bor (zab r).full (zab r).wit) (zab r).learn) (zab r).lwit) 7=allL r:=rfl
 rw [hvs] at ko
 have hom:(((allL r).map (zar (beatR r))).length+1) * 176≤140737488355328:=by rw [List.length_map];omega
 have hol:((allL r).map (zar (beatR r))).length+1≤maxLen:=zad (by rw [List.length_map];omega)
 generalize hot:(allL r).map (zar (beatR r))=ot at *
 generalize hvs2:allL r=vs at *
 have hvm:(vs.map encI).length=vs.length:=List.length_map ..
 refine zay mixed Tryz.func77 rfl (by kernel_rfl) (by kernel_rfl) ?_
 refine tQ ?_
 refine tQ ?_
 refine tC kc ?_
 refine tQ ?_
 rw [ew]
 conv=>whnf
 refine tQ ?_
 refine tC ka ?_
 refine tCR ko ?_
 refine tN0 ?_
 refine tQ ?_
 refine tFor (fun i:Nat=>i≤vs.length) (fun i=>[(5,iv i)]) (fun i=>[(9990,({ beat1 r with silent:=silL r.silent (vs.take i) }:Rft).enc),(3,(zab r).enc)]) (fun _=>[]) [] (fun i=>vs.length - i) 0 (Nat.zero_le _) ?_ ?_
 ·exact wkE
 intro i hi
 refine tS ?_ ?_<;>intro h
 ·have hlt:i < vs.length:=by omega
  clear h
  have hrow:(vs.map encI)[((i:Nat):Int).toNat]?=some (encI (vs[i]'hlt)):=za3 hlt
  have hsucc:=zqt r.silent hlt
  have hv:=hin _ (List.getElem_mem hlt)
  have hS:(silL r.silent (vs.take i)).fitF:=zg1 hf.silent fun w hw=>hin w (List.mem_of_mem_take hw)
  generalize vs[i]'hlt=v at *
  generalize hSd:silL r.silent (vs.take i)=S at *
  refine ⟨by omega,_,hrow,?_⟩
  conv=>whnf
  refine ⟨by omega,_,hrow,?_⟩
  conv=>whnf
  refine ⟨⟨hv.1,hv.2⟩,?_⟩
  have hsn:=hS v.toNat (by omega)
  have ewj:IntKind.i64.wrap (S.at v.toNat+1)=S.at v.toNat+1:=zaf (by have:0≤S.at v.toNat∧S.at v.toNat≤1099511627776:=hsn;omega) (by have:0≤S.at v.toNat∧S.at v.toNat≤1099511627776:=hsn;omega)
  have hs1:sil1 S v=S.put v.toNat (farM (S.at v.toNat+1)):=rfl
  rcases zct hv with e | e | e | e | e | e | e
  all_goals
   rw [e] at ewj hs1 hsn
   simp only [Arr.at] at ewj hs1 hsn
   rw [e]
   conv=>whnf
   refine ⟨⟨hv.1,hv.2⟩,?_⟩
   rw [e]
   conv=>whnf
   refine ⟨i+1,[],⟨by omega,by omega⟩,?_⟩
   rw [hsucc,hs1]
   (refine tWK ?_;and_intros<;>try exact ⟨⟩)
   all_goals first | exact w1 (by omega) | rfl | (rw [ewj];rfl) | trace_state
 ·have ei:i=vs.length:=by omega
  subst ei
  clear h
  rw [List.take_length]
  conv=>whnf
  subst hvs2
  have hSf:(beatR r).silent.fitF:=zg1 hf.silent hin
  refine tQ ?_
  refine tQ ?_
  refine tFor (fun k:Nat=>k≤7) (fun k=>[(7,iv k),(6,iv (nearB r.id (beatR r).silent k))]) (fun _=>[(9990,(beatR r).enc),(3,(zab r).enc)]) (fun _=>[]) [] (fun k=>7 - k) 0 (Nat.zero_le _) ?_ ?_
  ·exact wkE
  intro k hk
  rcases (by have hk:k≤7:=hk;omega:k < 7∨k=7) with hk7 | rfl
  ·have hn1:¬ (((k:Nat):Int)=r.id∨(beatR r).silent.at k < 12)→nearB r.id (beatR r).silent (k+1)=nearB r.id (beatR r).silent k:=fun a=>if_neg a
   have hy1:=fun a=>z4p r.id (beatR r).silent hk7 a
   generalize nearB r.id (beatR r).silent k=w0 at *
   generalize hw1:nearB r.id (beatR r).silent (k+1)=w1' at *
   obtain ⟨kk,ekk⟩:∃ kk,kk=k+1:=⟨_,rfl⟩
   rcases (by omega:k=0∨k=1∨k=2∨k=3∨k=4∨k=5∨k=6) with rfl | rfl | rfl | rfl | rfl | rfl | rfl
   all_goals
    refine tS ?_ ?_<;>intro h
    ·have e:=hy1 (.inl h)
     refine tK2 ?_
     refine ⟨kk,[],⟨by show kk≤7;omega,by show 7 - kk < 7 - _;omega⟩,?_⟩
     subst ekk
     (refine tWK ?_;and_intros<;>try exact ⟨⟩)
     all_goals first | rfl | exact e.trans hw1.symm | trace_state
    ·have h1:=h
     clear h
     refine tK2 ?_
     refine tS ?_ ?_<;>intro h
     ·have e:=hy1 (.inr h)
      refine tK2 ?_
      refine ⟨kk,[],⟨by show kk≤7;omega,by show 7 - kk < 7 - _;omega⟩,?_⟩
      subst ekk
      (refine tWK ?_;and_intros<;>try exact ⟨⟩)
      all_goals first | rfl | exact e.trans hw1.symm | trace_state
     ·have e:=hn1 (fun a=>a.elim h1 h)
      refine ⟨kk,[],⟨by show kk≤7;omega,by show 7 - kk < 7 - _;omega⟩,?_⟩
      subst ekk
      (refine tWK ?_;and_intros<;>try exact ⟨⟩)
      all_goals first | rfl | exact e.symm.trans hw1.symm | trace_state
  ·conv=>whnf
   refine tQ ?_
   refine tC kl ?_
   refine tQ ?_
   refine tC kfc ?_
   refine tCut (fun _:Unit=>goB r=true) (fun _=>[]) (fun _=>[(9990,(beatR r).enc),(3,(zab r).enc),(10,(force r.hard (lastI r.hard)).1.enc)]) (fun _=>[]) ?_ ?_
   ·conv=>whnf
    cases hq:zak (zab r) (zds r.id (beatR r).silent 7) with
    | false =>
     rw [hq] at kq
     have hg:goB r=false:=by rw [hgo,hq];rfl
     rw [hg,if_neg (show ¬ false=true by decide),if_neg (show ¬ false=true by decide)]
     refine tC kq ?_
     refine tER ([(9990,9990)],[],[]) kfa ?_
     exact eX []
    | true =>
     rw [hq] at kq
     cases hv:zbx (beatR r) with
     | true =>
      have hg:goB r=true:=by rw [hgo,hq,hv];rfl
      rw [show bitB (bor (zab (beatR r)).full (zab (beatR r)).wit) (beatR r).id=true from hv] at kvo
      refine tC kq ?_
      refine tCR kvo ?_
      refine ⟨(),[],hg,?_⟩
      exact wkE
     | false =>
      rw [show bitB (bor (zab (beatR r)).full (zab (beatR r)).wit) (beatR r).id=false from hv] at kvo
      by_cases hat:(force r.hard (lastI r.hard)).2≤r.commit
      ·have hg:goB r=false:=by rw [hgo,hq,hv,decide_eq_true hat];rfl
       rw [hg,if_neg (show ¬ false=true by decide),if_neg (show ¬ false=true by decide)]
       refine tC kq ?_
       refine tCR kvo ?_
       refine tK ?_
       refine tER ([(9990,9990)],[],[]) kfa ?_
       exact eX []
      ·have hg:goB r=true:=by rw [hgo,hq,hv,decide_eq_false hat];rfl
       refine tC kq ?_
       refine tCR kvo ?_
       refine tK ?_
       refine ⟨(),[],hg,?_⟩
       exact wkE
   rintro _ hg
   rw [if_pos hg,if_pos hg]
   conv=>whnf
   refine tQ ?_
   refine tCR ksa ?_
   refine tN1 ?_
   refine tQ ?_
   refine tC kki ?_
   cases hw:witB (beatR r) with
   | false =>
    have hw2:((kindR (zab r) r.id).toList == (ByteArray.mk #[119,105,116]).toList)=false:=hw
    have hno:nowO (beatR r)=[]:=by unfold nowO;rw [hw];rfl
    rw [hno,List.append_nil]
    refine tK ?_
    (refine zcm [] [(2048,false,16,ot)] ?_;(conv=>whnf);(refine And.intro (And.intro (by with_unfolding_all rfl) (by intro q hq;rw [List.mem_singleton.1 hq];first | rfl | exact congrArg (fun x=>some (some x)) (zbi (b:=false) (by kernel_rfl) (by first | (rw [List.take_of_length_le (Nat.le_refl _)];done) | (rw [List.take_of_length_le (Nat.le_refl _)];rfl))))) ?_;refine And.intro ?_ (And.intro ?_ ?_)<;>(conv=>whnf)<;>(repeat' (first | exact True.intro | (with_reducible exact rfl) | exact (rfl:List.replicate 0 PV.bad=[]) | ((with_reducible refine And.intro ?_ ?_)<;>(first | (with_reducible exact zae _ rfl) | exact zba (b:=false) (List.Mem.head _) rfl | exact zqq rfl rfl | exact zas rfl rfl rfl | (refine zas rfl rfl ?_) | (refine zha (congrArg (Value.int .i64) ?_)) | (refine zha (congrArg Value.bool ?_)) | exact zo7 rfl | ((refine znh ?_);conv=>whnf) | ((refine zat ?_);conv=>whnf) | ((refine zao ?_);conv=>whnf) | (conv=>whnf)))))))
    all_goals first | rfl | exact .inl rfl | trace_state
   | true =>
    have hw2:((kindR (zab r) r.id).toList == (ByteArray.mk #[119,105,116]).toList)=true:=hw
    have hno:nowO (beatR r)=nowL (beatR r) (othN r.id (zab r).full 7):=by unfold nowO;rw [hw];rfl
    rw [hno]
    refine tK ?_
    refine tQ ?_
    refine tFor (fun k:Nat=>k≤7∧∀ v ∈ othN r.id (zab r).full k,nowP (beatR r) v=false) (fun k=>[(13,iv k)]) (fun _=>[(9990,(beatR r).enc),(3,(zab r).enc),(10,(force r.hard (lastI r.hard)).1.enc)]) (fun _=>[(2048,some (false,16,ot))]) [(2048,2048)] (fun k=>7 - k) 0 ⟨Nat.zero_le _,fun v hv=>absurd hv (List.not_mem_nil)⟩ ?_ ?_
    ·exact wkE
    rintro k ⟨hk,hal⟩
    rcases (by have hk:k≤7:=hk;omega:k < 7∨k=7) with hk7 | rfl
    ·have kh:=c_Has (zab r).full k
     have hnext:(((k:Nat):Int)=r.id∨tb (zab r).full k=false∨nowP (beatR r) ((k:Nat):Int)=false)→∀ v ∈ othN r.id (zab r).full (k+1),nowP (beatR r) v=false:=fun h=>now_no hal h
     have hdef:nowP (beatR r) ((k:Nat):Int)=(decide ((beatR r).mtch.at k=lastI r.hard) && decide ((beatR r).silent.at k < 6)):=rfl
     have hwi:zav (k:Int) 0 6=true:=by simp [zav];omega
     obtain ⟨kk,ekk⟩:∃ kk,kk=k+1:=⟨_,rfl⟩
     cases ht:tb (zab r).full k with
     | false =>
      rw [show hasB (zab r).full k=false from (zja hwi).trans ((zyh hk7 _).trans ht)] at kh
      have hp:=hnext (.inr (.inl ht))
      rcases (by omega:k=0∨k=1∨k=2∨k=3∨k=4∨k=5∨k=6) with rfl | rfl | rfl | rfl | rfl | rfl | rfl
      all_goals
       refine tC kh ?_
       refine ⟨kk,[(2048,2048)],⟨⟨by show kk≤7;omega,by show ∀ v ∈ othN r.id (zab r).full kk,_;rw [ekk];exact hp⟩,by show 7 - kk < 7 - _;omega⟩,?_⟩
       subst ekk
       exact wkE
     | true =>
      rw [show hasB (zab r).full k=true from (zja hwi).trans ((zyh hk7 _).trans ht)] at kh
      have hyes:(beatR r).mtch.at k=lastI r.hard→(beatR r).silent.at k < 6→nowL (beatR r) (othN r.id (zab r).full 7)=[nowM (beatR r) ((k:Nat):Int)]:=fun h1 h2=>now_yes hk7 (z25 (x:=beatR r) hw hk7 ht) ht hal (by rw [hdef,decide_eq_true h1,decide_eq_true h2];rfl)
      have hno1:¬ (beatR r).mtch.at k=lastI r.hard→∀ v ∈ othN r.id (zab r).full (k+1),nowP (beatR r) v=false:=fun h1=>hnext (.inr (.inr (by rw [hdef,decide_eq_false h1,Bool.false_and])))
      have hno2:¬ (beatR r).silent.at k < 6→∀ v ∈ othN r.id (zab r).full (k+1),nowP (beatR r) v=false:=fun h2=>hnext (.inr (.inr (by rw [hdef,decide_eq_false h2,Bool.and_false])))
      clear hnext hdef
      rcases (by omega:k=0∨k=1∨k=2∨k=3∨k=4∨k=5∨k=6) with rfl | rfl | rfl | rfl | rfl | rfl | rfl
      all_goals
       refine tC kh ?_
       refine tK2 ?_
       refine tS ?_ ?_<;>intro h
       ·have h1:=h
        clear h
        refine tK2 ?_
        refine tS ?_ ?_<;>intro h
        ·rw [hyes h1 h]
         refine tAB hom hol ?_
         (refine zcm [] [(177 * 16,false,16,ot++[nowM (beatR r) ((kk - 1:Nat):Int)])] ?_;subst ekk;(conv=>whnf);(refine And.intro (And.intro (by with_unfolding_all rfl) (by intro q hq;rw [List.mem_singleton.1 hq];first | rfl | exact congrArg (fun x=>some (some x)) (zbi (b:=false) (by kernel_rfl) (by first | (rw [List.take_of_length_le (Nat.le_refl _)];done) | (rw [List.take_of_length_le (Nat.le_refl _)];rfl))))) ?_;refine And.intro ?_ (And.intro ?_ ?_)<;>(conv=>whnf)<;>(repeat' (first | exact True.intro | (with_reducible exact rfl) | exact (rfl:List.replicate 0 PV.bad=[]) | ((with_reducible refine And.intro ?_ ?_)<;>(first | (with_reducible exact zae _ rfl) | exact zba (b:=false) (List.Mem.head _) List.length_append.symm | exact zqq rfl rfl | exact zas rfl rfl rfl | (refine zas rfl rfl ?_) | (refine zha (congrArg (Value.int .i64) ?_)) | (refine zha (congrArg Value.bool ?_)) | exact zo7 rfl | ((refine znh ?_);conv=>whnf) | ((refine zat ?_);conv=>whnf) | ((refine zao ?_);conv=>whnf) | (conv=>whnf)))))))
         all_goals first | rfl | exact .inl rfl | trace_state
        ·have hp:=hno2 h
         refine ⟨kk,[(2048,2048)],⟨⟨by show kk≤7;omega,by show ∀ v ∈ othN r.id (zab r).full kk,_;rw [ekk];exact hp⟩,by show 7 - kk < 7 - _;omega⟩,?_⟩
         subst ekk
         exact wkE
       ·have hp:=hno1 h
        refine ⟨kk,[(2048,2048)],⟨⟨by show kk≤7;omega,by show ∀ v ∈ othN r.id (zab r).full kk,_;rw [ekk];exact hp⟩,by show 7 - kk < 7 - _;omega⟩,?_⟩
        subst ekk
        exact wkE
    ·rw [z4k hal,List.append_nil]
     conv=>whnf
     refine tZ ?_
     (refine zcm [] [(2048,false,16,ot)] ?_;(conv=>whnf);(refine And.intro (And.intro (by with_unfolding_all rfl) (by intro q hq;rw [List.mem_singleton.1 hq];first | rfl | exact congrArg (fun x=>some (some x)) (zbi (b:=false) (by kernel_rfl) (by first | (rw [List.take_of_length_le (Nat.le_refl _)];done) | (rw [List.take_of_length_le (Nat.le_refl _)];rfl))))) ?_;refine And.intro ?_ (And.intro ?_ ?_)<;>(conv=>whnf)<;>(repeat' (first | exact True.intro | (with_reducible exact rfl) | exact (rfl:List.replicate 0 PV.bad=[]) | ((with_reducible refine And.intro ?_ ?_)<;>(first | (with_reducible exact zae _ rfl) | exact zba (b:=false) (List.Mem.head _) rfl | exact zqq rfl rfl | exact zas rfl rfl rfl | (refine zas rfl rfl ?_) | (refine zha (congrArg (Value.int .i64) ?_)) | (refine zha (congrArg Value.bool ?_)) | exact zo7 rfl | ((refine znh ?_);conv=>whnf) | ((refine zat ?_);conv=>whnf) | ((refine zao ?_);conv=>whnf) | (conv=>whnf)))))))
     all_goals first | rfl | exact .inl rfl | trace_state
end Go.Proofs
