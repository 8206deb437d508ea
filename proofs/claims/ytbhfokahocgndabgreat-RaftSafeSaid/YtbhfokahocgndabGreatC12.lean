import Derived.Test.YtbhfokahocgndabGreatPvQ3
import Derived.Test.YtbhfokahocgndabGreatY2
import Derived.Test.YtbhfokahocgndabGreatC1
import Derived.Test.YtbhfokahocgndabGreatC3
/- Contracts of functions: whether the configuration may change. -/
set_option linter.unusedSimpArgs false
set_option linter.unusedVariables false
set_option maxHeartbeats 2000000
namespace Go.Proofs
open Go.Pv
set_option maxRecDepth 100000
theorem c_Own (a:Hrd) (hm:a.log.length≤maxLen) (hb:isI a.base) (i:Int) (hi:isI i):Ctr Tryz.prog 173 [.ag a.enc,iv i] (bv (fits a i a.term)) []:=by
 refine sBody Tryz.func173 ?_;conv=>whnf
 refine tC (zs6 a hm hb i hi _) ?_
 exact zaa rfl rfl
theorem c_May (a:Hrd) (hm:a.log.length≤maxLen) (hb:isI a.base) (i:Int) (hi:isI i):Ctr Tryz.prog 172 [.ag a.enc,iv i] (bv (fits a i a.term && decide ((force a (lastI a)).2≤i))) []:=by
 refine sBody Tryz.func172 ?_;conv=>whnf
 refine tC (zc1 a hm) ?_
 refine tC (zkd a hm _) ?_
 refine tC (c_Own a hm hb i hi) ?_
 refine tS ?_ ?_<;>intro h
 all_goals (refine zaa rfl ?_;simp [*])
theorem zfy (x:Nat):Ctr Tryz.prog 214 [.sc (.float .f64 x)] (.sc (.int .u64 x)) []:=by
 refine znb (e:=Go.Extern.MathFloatBits.float64bits) Tryz.func214 (by kernel_rfl) (by kernel_rfl) (by kernel_rfl) (by kernel_rfl) ?_
 intro w M vs hv
 simp only [RVL,RV] at hv
 obtain ⟨c,r,rfl,rfl,rfl⟩:=hv
 rfl
theorem s_Float (x:Nat):Ctr Tryz.prog 223 [.sc (.float .f64 x),.sc (.float .f64 x)] (bv true) []:=by
 refine sBody Tryz.func223 ?_;conv=>whnf
 repeat' (first | (first | refine tKA ?_ | refine tS ?_ ?_<;>intro h) | refine tC (zfy x) ?_ | fail)
 all_goals (refine zaa rfl ?_)
 all_goals first | rfl | simp_all
theorem zz5 (x:VVal):Ctr Tryz.prog 213 [.ag x.enc,.ag x.enc] (bv true) []:=by
 refine sBody Tryz.func213 ?_;conv=>whnf
 repeat' (first | refine tSame ?_ | refine tC (s_Float x.num) ?_ | fail)
 exact zaa rfl (by simp)
theorem s_Cmd (x:VCmd):Ctr Tryz.prog 193 [.ag x.enc,.ag x.enc] (bv true) []:=by
 refine sBody Tryz.func193 ?_;conv=>whnf
 repeat' (first | refine tSame ?_ | (first | refine tC (zz5 x.old) ?_ | refine tC (zz5 x.val) ?_) | fail)
 exact zaa rfl (by simp)
theorem s_Call (x:VCall):Ctr Tryz.prog 136 [.ag x.enc,.ag x.enc] (bv true) []:=by
 refine sBody Tryz.func136 ?_;conv=>whnf
 repeat' (first | refine tSame ?_ | refine tC (s_Cmd x.cmd) ?_ | fail)
 exact zaa rfl (by simp)
theorem z1q (a:Conf):Ctr Tryz.prog 137 [.ag a.enc,.ag a.enc] (bv true) []:=by
 refine sBody Tryz.func137 ?_;conv=>whnf
 repeat' (first | refine tSame ?_ | fail)
 exact zaa rfl (by simp)
theorem s_Entry (x:Ent):Ctr Tryz.prog 55 [.ag x.enc,.ag x.enc] (bv true) []:=by
 refine sBody Tryz.func55 ?_;conv=>whnf
 repeat' (first | refine tSame ?_ | (first | refine tC (s_Call x.call) ?_ | refine tC (z1q x.conf) ?_) | fail)
 exact zaa rfl (by simp)
theorem zrh (x:Arr):Ctr Tryz.prog 83 [.ag x.enc,.ag x.enc] (bv true) []:=by
 refine sBody Tryz.func83 ?_;conv=>whnf
 refine zby mixed (by kernel_rfl) 8 ?_
 conv=>whnf
 repeat' (first | refine tSame ?_ | refine tK2 ?_ | fail)
 exact zaa rfl rfl
theorem zpb (l:List Ent) (hm:l.length≤maxLen):Ctr Tryz.prog 158 [.sl 16 (l.map Ent.enc),.sl 16 (l.map Ent.enc)] (bv true) []:=by
 have hm':l.length≤9223372036854775807:=Nat.le_trans hm (by decide)
 refine sBody Tryz.func158 ?_;conv=>whnf
 refine tSame ?_
 refine zbe mixed (by kernel_rfl) (fun i:Nat=>i≤l.length) (fun i=>[(5,iv i)]) [] (fun i=>l.length - i) 0 (Nat.zero_le _) ?_ ?_
 ·exact wkE
 intro i hi
 refine tS ?_ ?_<;>intro h
 ·simp only [List.length_map] at h
  have hlt:i < l.length:=by omega
  refine ⟨by omega,_,za3 hlt,?_⟩
  conv=>whnf
  refine ⟨by omega,_,za3 hlt,?_⟩
  refine tC (s_Entry (l[i]'hlt)) ?_
  refine ⟨i+1,⟨by omega,by omega⟩,?_⟩
  (refine tWK ?_;and_intros<;>try exact ⟨⟩)
  exact w1 (by omega)
 ·exact zaa rfl rfl
theorem zy8 (l:List Int) (hm:l.length≤maxLen):Ctr Tryz.prog 157 [.sl 1 (l.map encB),.sl 1 (l.map encB)] (bv true) []:=by
 have hm':l.length≤9223372036854775807:=Nat.le_trans hm (by decide)
 refine sBody Tryz.func157 ?_;conv=>whnf
 refine tSame ?_
 refine zbe mixed (by kernel_rfl) (fun i:Nat=>i≤l.length) (fun i=>[(5,iv i)]) [] (fun i=>l.length - i) 0 (Nat.zero_le _) ?_ ?_
 ·exact wkE
 intro i hi
 refine tS ?_ ?_<;>intro h
 ·simp only [List.length_map] at h
  have hlt:i < l.length:=by omega
  refine ⟨by omega,_,za3 hlt,?_⟩
  conv=>whnf
  refine ⟨by omega,_,za3 hlt,?_⟩
  conv=>whnf
  refine tSame ?_
  refine ⟨i+1,⟨by omega,by omega⟩,?_⟩
  (refine tWK ?_;and_intros<;>try exact ⟨⟩)
  exact w1 (by omega)
 ·exact zaa rfl rfl
theorem small {n b:Nat} (h:n≤4294967296) (hb:b.ble 1024=true):n * b≤140737488355328:=by
 have h1:b≤1024:=Nat.le_of_ble_eq_true hb
 exact Nat.le_trans (Nat.mul_le_mul h h1) (by decide)
theorem zad {n:Nat} (h:n≤4294967296):n≤maxLen:=Nat.le_trans h (by decide)
theorem zqn (l:List Int) (h:l.length≤4294967296):Ctr Tryz.prog 149 [.sl 1 (l.map encB)] (.ow 0 0 (l.map encB).length) [(1,l.map encB)]:=by
 have h':(l.map encB).length≤4294967296:=by simpa using h
 refine sBody Tryz.func149 ?_;conv=>whnf
 refine ⟨rfl,?_⟩
 conv=>whnf
 refine ⟨⟨⟨small h' (by kernel_rfl),zad h'⟩,rfl⟩,?_⟩
 conv=>whnf
 exact zal [(0,96)] rfl ⟨rfl,True.intro⟩ (zas rfl rfl rfl)
theorem zch (l:List Ent) (h:l.length≤4294967296):Ctr Tryz.prog 150 [.sl 16 (l.map Ent.enc)] (.ow 0 0 (l.map Ent.enc).length) [(16,l.map Ent.enc)]:=by
 have h':(l.map Ent.enc).length≤4294967296:=by simpa using h
 refine sBody Tryz.func150 ?_;conv=>whnf
 refine ⟨rfl,?_⟩
 conv=>whnf
 refine ⟨⟨⟨small h' (by kernel_rfl),zad h'⟩,rfl⟩,?_⟩
 conv=>whnf
 exact zal [(0,96)] rfl ⟨rfl,True.intro⟩ (zas rfl rfl rfl)
theorem zr9 (l:List Rd) (h:l.length≤4294967296):Ctr Tryz.prog 200 [.sl 13 (l.map Rd.enc)] (.ow 0 0 (l.map Rd.enc).length) [(13,l.map Rd.enc)]:=by
 have h':(l.map Rd.enc).length≤4294967296:=by simpa using h
 refine sBody Tryz.func200 ?_;conv=>whnf
 refine ⟨rfl,?_⟩
 conv=>whnf
 refine ⟨⟨⟨small h' (by kernel_rfl),zad h'⟩,rfl⟩,?_⟩
 conv=>whnf
 exact zal [(0,96)] rfl ⟨rfl,True.intro⟩ (zas rfl rfl rfl)
abbrev Hrd.own (x:Hrd) (k:Nat):List PV:=[iv x.term,iv x.vote,iv x.base,iv x.baseTerm,iv x.baseConf.full,iv x.baseConf.wit,iv x.baseConf.learn,iv x.baseConf.lwit,.ow k 0 (x.snap.map encB).length,.ow (k+1) 0 (x.log.map Ent.enc).length]
abbrev Hrd.obs (x:Hrd):List (Nat×List (List PV)):=[(1,x.snap.map encB),(16,x.log.map Ent.enc)]
theorem znk (a:Hrd) (h1:a.snap.length≤4294967296) (h2:a.log.length≤4294967296):Ctr Tryz.prog 74 [.ag a.enc] (.ag (a.own 0)) a.obs:=by
 refine sBody Tryz.func74 ?_;conv=>whnf
 refine tC (zqn a.snap h1) ?_
 refine ⟨_,rfl,(by intro q hq;cases hq),(by intro i hi;rfl),?_⟩
 refine tC (zch a.log h2) ?_
 refine ⟨_,rfl,(by intro q hq;cases hq),?_,?_⟩
 ·intro i hi
  have:i=0:=by simpa using hi
  subst this;rfl
 conv=>whnf
 refine zal [(0,112),(1,176)] rfl ⟨rfl,rfl,True.intro⟩ (zao ?_)
 conv=>whnf
 repeat' (first | exact rfl | ((with_reducible refine And.intro ?_ ?_)<;>(first | (with_reducible exact zae _ rfl) | exact zas rfl rfl rfl | (conv=>whnf))))
abbrev Rft.own (x:Rft) (k:Nat):List PV:=[iv x.id]++x.hard.own k++[iv x.commit,iv x.role,iv x.lead,iv x.wait,iv x.quiet,iv x.votes,iv x.round]++x.next.enc++x.mtch.enc++x.silent.enc++[.ow (k+2) 0 (x.reads.map Rd.enc).length]
abbrev Rft.obs (x:Rft):List (Nat×List (List PV)):=[(1,x.hard.snap.map encB),(16,x.hard.log.map Ent.enc),(13,x.reads.map Rd.enc)]
theorem zfb (r:Rft) (h1:r.hard.snap.length≤4294967296) (h2:r.hard.log.length≤4294967296) (h3:r.reads.length≤4294967296):Ctr Tryz.prog 32 [.ag r.enc] (.ag (r.own 0)) r.obs:=by
 have h':(r.reads.map Rd.enc).length≤4294967296:=by simpa using h3
 refine sBody Tryz.func32 ?_;conv=>whnf
 refine tC (znk r.hard h1 h2) ?_
 refine ⟨_,rfl,(by intro q hq;cases hq),(by intro i hi;rfl),?_⟩
 conv=>whnf
 refine ⟨rfl,?_⟩
 conv=>whnf
 refine ⟨⟨⟨small h' (by kernel_rfl),zad h'⟩,rfl⟩,?_⟩
 conv=>whnf
 refine zal [(0,112),(1,113),(2,224)] rfl ⟨rfl,rfl,rfl,True.intro⟩ (zao ?_)
 conv=>whnf
 repeat' (first | exact rfl | ((with_reducible refine And.intro ?_ ?_)<;>(first | (with_reducible exact zae _ rfl) | exact zas rfl rfl rfl | (conv=>whnf))))
theorem zsi (l:List Rd) (hm:l.length≤maxLen):Ctr Tryz.prog 84 [.sl 13 (l.map Rd.enc),.sl 13 (l.map Rd.enc)] (bv true) []:=by
 have hm':l.length≤9223372036854775807:=Nat.le_trans hm (by decide)
 refine sBody Tryz.func84 ?_;conv=>whnf
 refine tSame ?_
 refine zbe mixed (by kernel_rfl) (fun i:Nat=>i≤l.length) (fun i=>[(5,iv i)]) [] (fun i=>l.length - i) 0 (Nat.zero_le _) ?_ ?_
 ·exact wkE
 intro i hi
 refine tS ?_ ?_<;>intro h
 ·simp only [List.length_map] at h
  have hlt:i < l.length:=by omega
  repeat' (first | ((with_reducible refine And.intro (by omega) (Exists.intro _ (And.intro (za3 hlt) ?_)));conv=>whnf) | refine tC (s_Call (l[i]'hlt).call) ?_ | refine tSame ?_ | fail)
  refine ⟨i+1,⟨by omega,by omega⟩,?_⟩
  (refine tWK ?_;and_intros<;>try exact ⟨⟩)
  exact w1 (by omega)
 ·exact zaa rfl rfl
theorem s_Hard (a:Hrd) (h1:a.snap.length≤maxLen) (h2:a.log.length≤maxLen):Ctr Tryz.prog 82 [.ag a.enc,.ag a.enc] (bv true) []:=by
 refine sBody Tryz.func82 ?_;conv=>whnf
 repeat' (first | refine tSame ?_ | (first | refine tC (z1q a.baseConf) ?_ | refine tC (zy8 a.snap h1) ?_ | refine tC (zpb a.log h2) ?_) | fail)
 exact zaa rfl rfl
theorem ze5 (r:Rft) (h1:r.hard.snap.length≤maxLen) (h2:r.hard.log.length≤maxLen) (h3:r.reads.length≤maxLen):Ctr Tryz.prog 34 [.ag r.enc,.ag r.enc] (bv true) []:=by
 refine sBody Tryz.func34 ?_;conv=>whnf
 repeat' (first | refine tSame ?_ | (first | refine tC (s_Hard r.hard h1 h2) ?_ | refine tC (zrh r.next) ?_ | refine tC (zrh r.mtch) ?_ | refine tC (zrh r.silent) ?_ | refine tC (zsi r.reads h3) ?_) | fail)
 exact zaa rfl rfl
theorem zf9 (l:List Rd) (h:l.length≤4294967296):Ctr Tryz.prog 110 [.sl 13 (l.map Rd.enc)] (.ow 0 0 (l.map Rd.enc).length) [(13,l.map Rd.enc)]:=by
 have h':(l.map Rd.enc).length≤4294967296:=by simpa using h
 refine sBody Tryz.func110 ?_;conv=>whnf
 refine ⟨fun e=>?_,?_⟩<;>conv=>whnf
 ·have:l=[]:=by simpa using e
  subst this
  exact zg6 13
 ·refine ⟨rfl,?_⟩
  conv=>whnf
  refine ⟨⟨⟨small h' (by kernel_rfl),zad h'⟩,rfl⟩,?_⟩
  conv=>whnf
  exact zal [(0,112)] rfl ⟨rfl,True.intro⟩ (zas rfl rfl rfl)
theorem zb7 (l:List Ent) (h:l.length≤4294967296):Ctr Tryz.prog 70 [.sl 16 (l.map Ent.enc)] (.ow 0 0 (l.map Ent.enc).length) [(16,l.map Ent.enc)]:=by
 have h':(l.map Ent.enc).length≤4294967296:=by simpa using h
 refine sBody Tryz.func70 ?_;conv=>whnf
 refine ⟨fun e=>?_,?_⟩<;>conv=>whnf
 ·have:l=[]:=by simpa using e
  subst this
  exact zg6 16
 ·refine ⟨rfl,?_⟩
  conv=>whnf
  refine ⟨⟨⟨small h' (by kernel_rfl),zad h'⟩,rfl⟩,?_⟩
  conv=>whnf
  exact zal [(0,112)] rfl ⟨rfl,True.intro⟩ (zas rfl rfl rfl)
theorem zcn (l:List Int) (h:l.length≤4294967296):Ctr Tryz.prog 109 [.sl 1 (l.map encB)] (.ow 0 0 (l.map encB).length) [(1,l.map encB)]:=by
 have h':(l.map encB).length≤4294967296:=by simpa using h
 refine sBody Tryz.func109 ?_;conv=>whnf
 refine ⟨fun e=>?_,?_⟩<;>conv=>whnf
 ·have:l=[]:=by simpa using e
  subst this
  exact zg6 1
 ·refine ⟨rfl,?_⟩
  conv=>whnf
  refine ⟨⟨⟨small h' (by kernel_rfl),zad h'⟩,rfl⟩,?_⟩
  conv=>whnf
  exact zal [(0,112)] rfl ⟨rfl,True.intro⟩ (zas rfl rfl rfl)
noncomputable def ack1 (frm round:Int) (x:Rd):Rd:=if x.round≤round∧0≤frm∧frm < 7 then { x with acks:=bor x.acks (shl 1 frm) } else x
noncomputable def ackL (l:List Rd) (frm round:Int) (i:Nat):List Rd:=(l.take i).map (ack1 frm round)++l.drop i
theorem zuo (l:List Rd) (frm round:Int) (i:Nat):(ackL l frm round i).length=l.length:=by
 simp [ackL];omega
theorem zn8 (l:List Rd) (frm round:Int) {i:Nat} (h:i < l.length):((ackL l frm round i).map Rd.enc)[i]?=some (l[i]'h).enc:=by
 unfold ackL
 rw [List.getElem?_map,List.getElem?_append_right (by simp;omega)]
 simp [Nat.min_eq_left (Nat.le_of_lt h),h]
theorem zic (l:List Rd) (frm round:Int) {i:Nat} (h:i < l.length):ackL l frm round (i+1)=(ackL l frm round i).set i (ack1 frm round (l[i]'h)):=by
 unfold ackL
 rw [List.take_succ_eq_append_getElem h,List.map_append,List.append_assoc,List.set_append_right i (ack1 frm round (l[i]'h)) (by simp;omega)]
 rw [List.drop_eq_getElem_cons h]
 simp only [List.length_map,List.length_take,Nat.min_eq_left (Nat.le_of_lt h),Nat.sub_self,List.set_cons_zero,List.map_cons,List.map_nil,List.cons_append,List.nil_append]
theorem zun (l:List Rd) (frm round:Int):ackL l frm round l.length=l.map (ack1 frm round):=by simp [ackL]
theorem c_Ack (l:List Rd) (hl:l.length≤4294967296) (frm round:Int):Ctr Tryz.prog 191 [.sl 13 (l.map Rd.enc),iv frm,iv round] (.ow 0 0 ((l.map (ack1 frm round)).map Rd.enc).length) [(13,(l.map (ack1 frm round)).map Rd.enc)]:=by
 refine sBody Tryz.func191 ?_;conv=>whnf
 refine tC (zf9 l hl) ?_
 refine ⟨_,rfl,(by intro q hq;cases hq),(by intro i hi;rfl),?_⟩
 conv=>whnf
 refine tFor (fun i:Nat=>i≤l.length) (fun i=>[(13,iv i)]) (fun _=>[]) (fun i=>[(160,some (false,13,(ackL l frm round i).map Rd.enc))]) [(160,160)] (fun i=>l.length - i) 0 (Nat.zero_le _) ?_ ?_
 ·(refine tWK ?_;and_intros<;>try exact ⟨⟩)
  ·rfl
  ·rfl
 intro i hi
 refine tS ?_ ?_<;>intro h
 ·simp only [List.length_map] at h
  have hlt:i < l.length:=by omega
  have hrow:((ackL l frm round i).map Rd.enc)[0+((i:Nat):Int).toNat]?=some (l[i]'hlt).enc:=by
   rw [Nat.zero_add];exact zn8 l frm round hlt
  have hidx:0≤((i:Nat):Int)∧((i:Nat):Int) < (((l.map Rd.enc).length:Nat):Int):=by simp only [List.length_map];omega
  have stay:ack1 frm round (l[i]'hlt)=l[i]'hlt→ackL l frm round (i+1)=ackL l frm round i:=by
   intro e
   rw [zic l frm round hlt,e]
   apply List.ext_getElem?
   intro j
   by_cases ej:i=j
   ·subst ej
    rw [List.getElem?_set_self (by rw [zuo];exact hlt)]
    have:=zn8 l frm round hlt
    unfold ackL
    rw [List.getElem?_append_right (by simp;omega)]
    simp [Nat.min_eq_left (Nat.le_of_lt hlt),hlt]
   ·rw [List.getElem?_set_ne ej]
  refine ⟨hidx,?_⟩
  conv=>whnf
  refine ⟨_,hrow,?_⟩
  refine tS ?_ ?_<;>intro h
  ·have h1:=h
   refine tS ?_ ?_<;>intro h
   ·have h2:=h
    refine tS ?_ ?_<;>intro h
    ·refine ⟨hidx,?_⟩
     conv=>whnf
     refine ⟨_,hrow,?_⟩
     conv=>whnf
     refine ⟨⟨by decide,by omega⟩,?_⟩
     conv=>whnf
     refine ⟨hidx,?_⟩
     conv=>whnf
     refine ⟨_,hrow,?_⟩
     conv=>whnf
     refine ⟨i+1,[(160,160)],⟨by omega,by omega⟩,?_⟩
     (refine tWK ?_;and_intros<;>try exact ⟨⟩)
     ·rw [zic l frm round hlt,List.map_set]
      simp only [ack1,h1,h2,h,and_self,if_true]
      rw [Nat.zero_add,Int.toNat_natCast]
     ·exact w1 (by omega)
    ·have e:=stay (by unfold ack1;rw [if_neg (fun x=>h x.2.2)])
     refine ⟨i+1,[(160,160)],⟨by omega,by omega⟩,?_⟩
     (refine tWK ?_;and_intros<;>try exact ⟨⟩)
     ·rw [e]
     ·exact w1 (by omega)
   ·have e:=stay (by unfold ack1;rw [if_neg (fun x=>h x.2.1)])
    refine ⟨i+1,[(160,160)],⟨by omega,by omega⟩,?_⟩
    (refine tWK ?_;and_intros<;>try exact ⟨⟩)
    ·rw [e]
    ·exact w1 (by omega)
  ·have e:=stay (by unfold ack1;rw [if_neg (fun x=>h x.1)])
   refine ⟨i+1,[(160,160)],⟨by omega,by omega⟩,?_⟩
   (refine tWK ?_;and_intros<;>try exact ⟨⟩)
   ·rw [e]
   ·exact w1 (by omega)
 ·simp only [List.length_map] at h
  have:i=l.length:=by omega
  subst this
  refine zal [(0,160)] rfl ⟨?_,True.intro⟩ (zas rfl rfl (by simp))
  rw [zun]
noncomputable def rdy (c:Conf) (applied:Int) (x:Rd):Bool:=zak c x.acks && decide (x.index≤applied)
noncomputable def rdyL (l:List Rd) (c:Conf) (applied:Int) (i:Nat):List Rd:=(l.take i).filter (rdy c applied)
noncomputable def lftL (l:List Rd) (c:Conf) (applied:Int) (i:Nat):List Rd:=(l.take i).filter fun x=>!rdy c applied x
theorem zq1 {l:List Rd}{c:Conf}{applied:Int}{i:Nat} (h:i < l.length):rdyL l c applied (i+1)=rdyL l c applied i++if rdy c applied (l[i]'h) then [l[i]'h] else []:=by
 unfold rdyL
 rw [List.take_succ_eq_append_getElem h,List.filter_append]
 congr 1
 cases hr:rdy c applied (l[i]'h)<;>simp [hr]
theorem zqd {l:List Rd}{c:Conf}{applied:Int}{i:Nat} (h:i < l.length):lftL l c applied (i+1)=lftL l c applied i++if rdy c applied (l[i]'h) then [] else [l[i]'h]:=by
 unfold lftL
 rw [List.take_succ_eq_append_getElem h,List.filter_append]
 congr 1
 cases hr:rdy c applied (l[i]'h)<;>simp [hr]
theorem zto (l:List Rd) (c:Conf) (applied:Int) (i:Nat):(rdyL l c applied i).length≤l.length:=by
 unfold rdyL
 exact Nat.le_trans (List.length_filter_le _ _) (by simp;omega)
theorem zuf (l:List Rd) (c:Conf) (applied:Int) (i:Nat):(lftL l c applied i).length≤l.length:=by
 unfold lftL
 exact Nat.le_trans (List.length_filter_le _ _) (by simp;omega)
theorem c_Ready (l:List Rd) (hl:l.length≤4294967) (c:Conf) (applied:Int):Ctr Tryz.prog 174 [.sl 13 (l.map Rd.enc),.ag c.enc,iv applied] (.tu [.ow 0 0 ((l.filter (rdy c applied)).map Rd.enc).length,.ow 1 0 ((l.filter fun x=>!rdy c applied x).map Rd.enc).length]) [(13,(l.filter (rdy c applied)).map Rd.enc),(13,(l.filter fun x=>!rdy c applied x).map Rd.enc)]:=by
 refine sBody Tryz.func174 ?_;conv=>whnf
 refine zfx 6 1000 13 rfl rfl ?_
 conv=>whnf
 refine zfx 7 1001 13 rfl rfl ?_
 conv=>whnf
 refine tFor (fun i:Nat=>i≤l.length) (fun i=>[(12,iv i),(6,.ow 1000 0 (rdyL l c applied i).length),(7,.ow 1001 0 (lftL l c applied i).length)]) (fun _=>[(4,c.enc)]) (fun i=>[(1000,some (false,13,(rdyL l c applied i).map Rd.enc)),(1001,some (false,13,(lftL l c applied i).map Rd.enc))]) [(1000,1000),(1001,1001)] (fun i=>l.length - i) 0 (Nat.zero_le _) ?_ ?_
 ·exact wkE
 intro i hi
 refine tS ?_ ?_<;>intro h
 ·simp only [List.length_map] at h
  have hlt:i < l.length:=by omega
  have hr1:=zq1 (c:=c) (applied:=applied) hlt
  have hr2:=zqd (c:=c) (applied:=applied) hlt
  have n1:=zto l c applied i
  have n2:=zuf l c applied i
  refine ⟨by omega,_,za3 hlt,?_⟩
  refine tC (zjz c _) ?_
  refine tS ?_ ?_<;>intro h
  ·have h1:=h
   refine tS ?_ ?_<;>intro h
   ·have e:rdy c applied (l[i]'hlt)=true:=by simp [rdy,h1,h]
    rw [e,if_pos rfl] at hr1
    rw [e,if_pos rfl,List.append_nil] at hr2
    refine tA1 ?_
    refine ⟨i+1,[(1000,464),(1001,1001)],⟨by omega,by omega⟩,?_⟩
    rw [hr1,hr2]
    (refine tWK ?_;and_intros<;>try exact ⟨⟩)
    all_goals first | exact w1 (by omega) | (rw [List.take_of_length_le (by simp),List.map_append];rfl) | (simp;done) | rfl
   ·have e:rdy c applied (l[i]'hlt)=false:=by simp [rdy,h]
    rw [e,if_neg (by simp)] at hr2
    rw [e,if_neg (by simp),List.append_nil] at hr1
    refine tA1 ?_
    refine ⟨i+1,[(1000,1000),(1001,528)],⟨by omega,by omega⟩,?_⟩
    rw [hr1,hr2]
    (refine tWK ?_;and_intros<;>try exact ⟨⟩)
    all_goals first | exact w1 (by omega) | (rw [List.take_of_length_le (by simp),List.map_append];rfl) | (simp;done) | rfl
  ·have e:rdy c applied (l[i]'hlt)=false:=by simp [rdy,h]
   rw [e,if_neg (by simp)] at hr2
   rw [e,if_neg (by simp),List.append_nil] at hr1
   refine tA1 ?_
   refine ⟨i+1,[(1000,1000),(1001,528)],⟨by omega,by omega⟩,?_⟩
   rw [hr1,hr2]
   (refine tWK ?_;and_intros<;>try exact ⟨⟩)
   all_goals first | exact w1 (by omega) | (rw [List.take_of_length_le (by simp),List.map_append];rfl) | (simp;done) | rfl
 ·simp only [List.length_map] at h
  have:i=l.length:=by omega
  subst this
  have e1:rdyL l c applied l.length=l.filter (rdy c applied):=by simp [rdyL]
  have e2:lftL l c applied l.length=l.filter fun x=>!rdy c applied x:=by simp [lftL]
  rw [← e1,← e2]
  refine zal [(0,1000),(1,1001)] rfl ⟨rfl,rfl,True.intro⟩ (zat ?_)
  exact ⟨zas rfl rfl (by simp),zas rfl rfl (by simp),rfl⟩
theorem z3e (l:List Rd) (hl:l.length≤4294967) (c:Conf) (applied:Int):Ctr Tryz.prog 103 [.sl 13 (l.map Rd.enc),.ag c.enc,iv applied] (.tu [.ow 0 0 ((l.filter (rdy c applied)).map Rd.enc).length,.ow 1 0 ((l.filter fun x=>!rdy c applied x).map Rd.enc).length]) [(13,(l.filter (rdy c applied)).map Rd.enc),(13,(l.filter fun x=>!rdy c applied x).map Rd.enc)]:=by
 refine sBody Tryz.func103 ?_;conv=>whnf
 refine zfx 8 1000 13 rfl rfl ?_
 conv=>whnf
 refine zfx 9 1001 13 rfl rfl ?_
 conv=>whnf
 refine tFor (fun i:Nat=>i≤l.length) (fun i=>[(10,iv i),(8,.ow 1000 0 (rdyL l c applied i).length),(9,.ow 1001 0 (lftL l c applied i).length)]) (fun _=>[(4,c.enc)]) (fun i=>[(1000,some (false,13,(rdyL l c applied i).map Rd.enc)),(1001,some (false,13,(lftL l c applied i).map Rd.enc))]) [(1000,1000),(1001,1001)] (fun i=>l.length - i) 0 (Nat.zero_le _) ?_ ?_
 ·exact wkE
 intro i hi
 refine tS ?_ ?_<;>intro h
 ·simp only [List.length_map] at h
  have hlt:i < l.length:=by omega
  have hr1:=zq1 (c:=c) (applied:=applied) hlt
  have hr2:=zqd (c:=c) (applied:=applied) hlt
  have n1:=zto l c applied i
  have n2:=zuf l c applied i
  refine ⟨by omega,_,za3 hlt,?_⟩
  refine tS ?_ ?_<;>intro h
  ·have h1:=h
   refine ⟨by omega,_,za3 hlt,?_⟩
   refine tC (zh7 c _) ?_
   refine tS ?_ ?_<;>intro h
   ·have e:rdy c applied (l[i]'hlt)=true:=by simp [rdy,h1,h]
    rw [e,if_pos rfl] at hr1
    rw [e,if_pos rfl,List.append_nil] at hr2
    refine ⟨by omega,_,za3 hlt,?_⟩
    conv=>whnf
    refine tA1 ?_
    refine ⟨i+1,[(1000,624),(1001,1001)],⟨by omega,by omega⟩,?_⟩
    rw [hr1,hr2]
    (refine tWK ?_;and_intros<;>try exact ⟨⟩)
    all_goals first | exact w1 (by omega) | (rw [List.take_of_length_le (by simp),List.map_append];rfl) | (simp;done) | rfl
   ·have e:rdy c applied (l[i]'hlt)=false:=by simp [rdy,h]
    rw [e,if_neg (by simp)] at hr2
    rw [e,if_neg (by simp),List.append_nil] at hr1
    refine ⟨by omega,_,za3 hlt,?_⟩
    conv=>whnf
    refine tA1 ?_
    refine ⟨i+1,[(1000,1000),(1001,736)],⟨by omega,by omega⟩,?_⟩
    rw [hr1,hr2]
    (refine tWK ?_;and_intros<;>try exact ⟨⟩)
    all_goals first | exact w1 (by omega) | (rw [List.take_of_length_le (by simp),List.map_append];rfl) | (simp;done) | rfl
  ·have e:rdy c applied (l[i]'hlt)=false:=by simp [rdy,h]
   rw [e,if_neg (by simp)] at hr2
   rw [e,if_neg (by simp),List.append_nil] at hr1
   refine ⟨by omega,_,za3 hlt,?_⟩
   conv=>whnf
   refine tA1 ?_
   refine ⟨i+1,[(1000,1000),(1001,736)],⟨by omega,by omega⟩,?_⟩
   rw [hr1,hr2]
   (refine tWK ?_;and_intros<;>try exact ⟨⟩)
   all_goals first | exact w1 (by omega) | (rw [List.take_of_length_le (by simp),List.map_append];rfl) | (simp;done) | rfl
 ·simp only [List.length_map] at h
  have:i=l.length:=by omega
  subst this
  have e1:rdyL l c applied l.length=l.filter (rdy c applied):=by simp [rdyL]
  have e2:lftL l c applied l.length=l.filter fun x=>!rdy c applied x:=by simp [lftL]
  rw [← e1,← e2]
  refine zal [(0,1000),(1,1001)] rfl ⟨rfl,rfl,True.intro⟩ (zat ?_)
  exact ⟨zas rfl rfl (by simp),zas rfl rfl (by simp),rfl⟩
theorem c_rAck (l:List Rd) (hl:l.length≤4294967296) (frm round:Int):Ctr Tryz.prog 165 [.sl 13 (l.map Rd.enc),iv frm,iv round] (.ow 0 0 ((l.map (ack1 frm round)).map Rd.enc).length) [(13,(l.map (ack1 frm round)).map Rd.enc)]:=by
 refine sBody Tryz.func165 ?_;conv=>whnf
 refine tC (zr9 l hl) ?_
 refine ⟨_,rfl,(by intro q hq;cases hq),(by intro i hi;rfl),?_⟩
 conv=>whnf
 refine tFor (fun i:Nat=>i≤l.length) (fun i=>[(8,iv i)]) (fun _=>[]) (fun i=>[(160,some (false,13,(ackL l frm round i).map Rd.enc))]) [(160,160)] (fun i=>l.length - i) 0 (Nat.zero_le _) ?_ ?_
 ·(refine tWK ?_;and_intros<;>try exact ⟨⟩)
  ·rfl
  ·rfl
 intro i hi
 refine tS ?_ ?_<;>intro h
 ·simp only [List.length_map] at h
  have hlt:i < l.length:=by omega
  have hrow:((ackL l frm round i).map Rd.enc)[0+((i:Nat):Int).toNat]?=some (l[i]'hlt).enc:=by
   rw [Nat.zero_add];exact zn8 l frm round hlt
  have hidx:0≤((i:Nat):Int)∧((i:Nat):Int) < (((l.map Rd.enc).length:Nat):Int):=by simp only [List.length_map];omega
  have stay:ack1 frm round (l[i]'hlt)=l[i]'hlt→ackL l frm round (i+1)=ackL l frm round i:=by
   intro e
   rw [zic l frm round hlt,e]
   apply List.ext_getElem?
   intro j
   by_cases ej:i=j
   ·subst ej
    rw [List.getElem?_set_self (by rw [zuo];exact hlt)]
    have:=zn8 l frm round hlt
    unfold ackL
    rw [List.getElem?_append_right (by simp;omega)]
    simp [Nat.min_eq_left (Nat.le_of_lt hlt),hlt]
   ·rw [List.getElem?_set_ne ej]
  refine tC (zqs frm) ?_
  refine tS ?_ ?_<;>intro h
  ·have h2:0≤frm∧frm < 7:=by simp [zav] at h;omega
   refine ⟨hidx,?_⟩
   conv=>whnf
   refine ⟨_,hrow,?_⟩
   refine tS ?_ ?_<;>intro h
   ·refine ⟨hidx,?_⟩
    conv=>whnf
    refine ⟨_,hrow,?_⟩
    conv=>whnf
    refine ⟨⟨by decide,zfd _⟩,?_⟩
    conv=>whnf
    refine ⟨hidx,?_⟩
    conv=>whnf
    refine ⟨_,hrow,?_⟩
    conv=>whnf
    refine ⟨i+1,[(160,160)],⟨by omega,by omega⟩,?_⟩
    (refine tWK ?_;and_intros<;>try exact ⟨⟩)
    ·rw [zic l frm round hlt,List.map_set]
     simp only [ack1,h2,h,and_self,if_true]
     rw [Nat.zero_add,Int.toNat_natCast,zbz (by omega) (by omega)]
    ·exact w1 (by omega)
   ·have e:=stay (by unfold ack1;rw [if_neg (fun x=>h x.1)])
    refine ⟨i+1,[(160,160)],⟨by omega,by omega⟩,?_⟩
    (refine tWK ?_;and_intros<;>try exact ⟨⟩)
    ·rw [e]
    ·exact w1 (by omega)
  ·have h2:¬ (0≤frm∧frm < 7):=by simp [zav] at h;omega
   have e:=stay (by unfold ack1;rw [if_neg (fun x=>h2 x.2)])
   refine ⟨i+1,[(160,160)],⟨by omega,by omega⟩,?_⟩
   (refine tWK ?_;and_intros<;>try exact ⟨⟩)
   ·rw [e]
   ·exact w1 (by omega)
 ·simp only [List.length_map] at h
  have:i=l.length:=by omega
  subst this
  refine zal [(0,160)] rfl ⟨?_,True.intro⟩ (zas rfl rfl (by simp))
  rw [zun]
theorem z31 (f w l x:Bool):((kind4 f w l x).toList == (ByteArray.mk #[102,117,108,108]).toList)=f:=by
 cases f<;>cases w<;>cases l<;>cases x<;>decide +kernel
theorem z3r (f w l x:Bool) (h:one4 f w l x=true):((kind4 f w l x).toList == (ByteArray.mk #[119,105,116]).toList)=w:=by
 revert h;cases f<;>cases w<;>cases l<;>cases x<;>decide +kernel
theorem z2r (f w l x:Bool) (h:one4 f w l x=true):((kind4 f w l x).toList == (ByteArray.mk #[108,101,97,114,110]).toList)=l:=by
 revert h;cases f<;>cases w<;>cases l<;>cases x<;>decide +kernel
theorem z1y (f w l x:Bool) (h:one4 f w l x=true):((kind4 f w l x).toList == (ByteArray.mk #[108,101,97,114,110,119,105,116]).toList)=x:=by
 revert h;cases f<;>cases w<;>cases l<;>cases x<;>decide +kernel
noncomputable def zc0 (c:Conf) (n:Nat):List Conf :=
 if tb c.full n then [dele c n] else if tb c.wit n then [dele c n] else if tb c.learn n then [dele c n,proL c n] else if tb c.lwit n then [dele c n,proX c n] else [addL c n,addX c n]
noncomputable def zbs (c:Conf):Nat→List Conf
 | 0=>[]
 | n+1=>zbs c n++zc0 c n
theorem zst (c:Conf) (n:Nat):(zc0 c n).length≤2:=by unfold zc0;(repeat' split)<;>simp
theorem zgo (c:Conf):∀ n,(zbs c n).length≤2 * n
 | 0=>by simp [zbs]
 | n+1=>by have:=zgo c n;have:=zst c n;simp only [zbs,List.length_append];omega
theorem zfz {x:Int}{n:Nat} (hx:Bits7 x) (hn:n < 7) (h:tb x n=false):bandn x (shl 1 n)=x:=ext7 (zmw hx) hx fun i _=>by
 rw [zgw,ze1 n i (by omega)]
 by_cases e:n=i
 ·subst e;simp [h]
 ·simp [e]
theorem zui (c:Conf) (hk:Cok c):Ctr Tryz.prog 170 [.ag c.enc] (.ow 0 0 ((zbs c 7).map Conf.enc).length) [(4,(zbs c 7).map Conf.enc)]:=by
 refine sBody Tryz.func170 ?_;conv=>whnf
 refine zfx 3 1000 4 rfl rfl ?_
 conv=>whnf
 refine tFor (fun i:Nat=>i≤7) (fun i=>[(4,iv i),(3,.ow 1000 0 (zbs c i).length)]) (fun _=>[(1,c.enc)]) (fun i=>[(1000,some (false,4,(zbs c i).map Conf.enc))]) [(1000,1000)] (fun i=>7 - i) 0 (by decide) ?_ ?_
 ·exact wkE
 intro n hn
 refine tS ?_ ?_<;>intro h
 ·have hn:n < 7:=by omega
  have one:=hk.one n
  have hlen:=zgo c n
  have hb:=zyl hn
  have hsu:ishl IntKind.i64 1 (IntKind.u64.wrap (n:Int))=shl 1 n:=shl_u hn
  have bf:=hk.f
  have bw:=hk.w
  have bl:=hk.l
  have bx:=hk.x
  unfold Bits7 at bf bw bl bx
  have q1:=z31 (tb c.full n) (tb c.wit n) (tb c.learn n) (tb c.lwit n)
  have q2:=z3r _ _ _ _ one
  have q3:=z2r _ _ _ _ one
  have q4:=z1y _ _ _ _ one
  rw [← kind_4 c hn] at q1 q2 q3 q4
  refine ⟨⟨by decide,zfd _⟩,?_⟩
  refine tC (zn4 c n) ?_
  cases hf:tb c.full n
  all_goals rw [hf] at q1
  ·(first | refine tKA ?_ | refine tS ?_ ?_<;>intro h)
   cases hw:tb c.wit n
   all_goals rw [hw] at q2
   ·(first | refine tKA ?_ | refine tS ?_ ?_<;>intro h)
    cases hl:tb c.learn n
    all_goals rw [hl] at q3
    ·(first | refine tKA ?_ | refine tS ?_ ?_<;>intro h)
     cases hx:tb c.lwit n
     all_goals rw [hx] at q4
     ·(first | refine tKA ?_ | refine tS ?_ ?_<;>intro h)
      have e:zc0 c n=[addL c n,addX c n]:=by unfold zc0;rw [hf,hw,hl,hx];rfl
      have w1':IntKind.i64.wrap (c.learn+ishl IntKind.i64 1 (IntKind.u64.wrap n))=bor c.learn (shl 1 n):=by rw [hsu,zaf (by omega) (by omega),zk7 hk.l hn hl]
      have w2':IntKind.i64.wrap (c.lwit+ishl IntKind.i64 1 (IntKind.u64.wrap n))=bor c.lwit (shl 1 n):=by rw [hsu,zaf (by omega) (by omega),zk7 hk.x hn hx]
      refine tA1 ?_
      refine tA1 ?_
      refine ⟨n+1,[(1000,608)],⟨by omega,by omega⟩,?_⟩
      (refine tWK ?_;and_intros<;>try exact ⟨⟩)
      all_goals first | exact w1 (by omega) | (simp [zbs,e];done) | (refine zbi (by kernel_rfl) ?_;simp [List.take_of_length_le,zbs,e,w1',w2'];done) | rfl
     ·(first | refine tKA ?_ | refine tS ?_ ?_<;>intro h)
      have e:zc0 c n=[dele c n,proX c n]:=by unfold zc0;rw [hf,hw,hl,hx];rfl
      have ed:dele c n=⟨c.full,c.wit,c.learn,bandn c.lwit (shl 1 n)⟩:=by unfold dele;rw [zfz hk.f hn hf,zfz hk.w hn hw,zfz hk.l hn hl]
      have w1':IntKind.i64.wrap (c.lwit - ishl IntKind.i64 1 (IntKind.u64.wrap n))=bandn c.lwit (shl 1 n):=by rw [hsu,zaf (by omega) (by omega),zoh hk.x hn hx]
      have w2':IntKind.i64.wrap (c.wit+ishl IntKind.i64 1 (IntKind.u64.wrap n))=bor c.wit (shl 1 n):=by rw [hsu,zaf (by omega) (by omega),zk7 hk.w hn hw]
      refine tA1 ?_
      refine tA1 ?_
      refine ⟨n+1,[(1000,1600)],⟨by omega,by omega⟩,?_⟩
      (refine tWK ?_;and_intros<;>try exact ⟨⟩)
      all_goals first | exact w1 (by omega) | (simp [zbs,e];done) | (refine zbi (by kernel_rfl) ?_;simp [List.take_of_length_le,zbs,e,ed,w1',w2'];done) | rfl
    ·(first | refine tKA ?_ | refine tS ?_ ?_<;>intro h)
     have hx:tb c.lwit n=false:=by have:=hk.lx n;rw [hl] at this;simpa using this
     have e:zc0 c n=[dele c n,proL c n]:=by unfold zc0;rw [hf,hw,hl];rfl
     have ed:dele c n=⟨c.full,c.wit,bandn c.learn (shl 1 n),c.lwit⟩:=by unfold dele;rw [zfz hk.f hn hf,zfz hk.w hn hw,zfz hk.x hn hx]
     have w1':IntKind.i64.wrap (c.learn - ishl IntKind.i64 1 (IntKind.u64.wrap n))=bandn c.learn (shl 1 n):=by rw [hsu,zaf (by omega) (by omega),zoh hk.l hn hl]
     have w2':IntKind.i64.wrap (c.full+ishl IntKind.i64 1 (IntKind.u64.wrap n))=bor c.full (shl 1 n):=by rw [hsu,zaf (by omega) (by omega),zk7 hk.f hn hf]
     refine tA1 ?_
     refine tA1 ?_
     refine ⟨n+1,[(1000,1280)],⟨by omega,by omega⟩,?_⟩
     (refine tWK ?_;and_intros<;>try exact ⟨⟩)
     all_goals first | exact w1 (by omega) | (simp [zbs,e];done) | (refine zbi (by kernel_rfl) ?_;simp [List.take_of_length_le,zbs,e,ed,w1',w2'];done) | rfl
   ·(first | refine tKA ?_ | refine tS ?_ ?_<;>intro h)
    have hl:tb c.learn n=false:=by have:=hk.wl n;rw [hw] at this;simpa using this
    have hx:tb c.lwit n=false:=by have:=hk.wx n;rw [hw] at this;simpa using this
    have e:zc0 c n=[dele c n]:=by unfold zc0;rw [hf,hw];rfl
    have ed:dele c n=⟨c.full,bandn c.wit (shl 1 n),c.learn,c.lwit⟩:=by unfold dele;rw [zfz hk.f hn hf,zfz hk.l hn hl,zfz hk.x hn hx]
    have w1':IntKind.i64.wrap (c.wit - ishl IntKind.i64 1 (IntKind.u64.wrap n))=bandn c.wit (shl 1 n):=by rw [hsu,zaf (by omega) (by omega),zoh hk.w hn hw]
    refine tA1 ?_
    refine ⟨n+1,[(1000,960)],⟨by omega,by omega⟩,?_⟩
    (refine tWK ?_;and_intros<;>try exact ⟨⟩)
    all_goals first | exact w1 (by omega) | (simp [zbs,e];done) | (refine zbi (by kernel_rfl) ?_;simp [List.take_of_length_le,zbs,e,ed,w1'];done) | rfl
  ·(first | refine tKA ?_ | refine tS ?_ ?_<;>intro h)
   have hw:tb c.wit n=false:=by have:=hk.fw n;rw [hf] at this;simpa using this
   have hl:tb c.learn n=false:=by have:=hk.fl n;rw [hf] at this;simpa using this
   have hx:tb c.lwit n=false:=by have:=hk.fx n;rw [hf] at this;simpa using this
   have e:zc0 c n=[dele c n]:=by unfold zc0;rw [hf];rfl
   have ed:dele c n=⟨bandn c.full (shl 1 n),c.wit,c.learn,c.lwit⟩:=by unfold dele;rw [zfz hk.w hn hw,zfz hk.l hn hl,zfz hk.x hn hx]
   have w1':IntKind.i64.wrap (c.full - ishl IntKind.i64 1 (IntKind.u64.wrap n))=bandn c.full (shl 1 n):=by rw [hsu,zaf (by omega) (by omega),zoh hk.f hn hf]
   refine tA1 ?_
   refine ⟨n+1,[(1000,784)],⟨by omega,by omega⟩,?_⟩
   (refine tWK ?_;and_intros<;>try exact ⟨⟩)
   all_goals first | exact w1 (by omega) | (simp [zbs,e];done) | (refine zbi (by kernel_rfl) ?_;simp [List.take_of_length_le,zbs,e,ed,w1'];done) | rfl
 ·have:n=7:=by omega
  subst this
  exact zal [(0,1000)] rfl ⟨rfl,True.intro⟩ (zas rfl rfl (by simp))
noncomputable def nearL (a b:Conf):Bool:=confB a && (confB b && ((zbs a 7).any (fun x=>decide (x=b)) || decide (a=b)))
theorem zzm (a b:Conf):Ctr Tryz.prog 169 [.ag a.enc,.ag b.enc] (bv (nearL a b)) []:=by
 refine sBody Tryz.func169 ?_;conv=>whnf
 refine tC (ziy a) ?_
 refine tS ?_ ?_<;>intro h
 ·exact zaa rfl (by simp [nearL,h])
 have ha:=h
 refine tC (ziy b) ?_
 refine tS ?_ ?_<;>intro h
 ·exact zaa rfl (by simp [nearL,ha,h])
 have hb:=h
 have hA:=(zci a).1 ha
 refine tC (zui a hA) ?_
 refine tN1 ?_
 have hlen:(zbs a 7).length≤14:=zgo a 7
 refine zh4 mixed (by kernel_rfl) (fun i:Nat=>i≤(zbs a 7).length∧∀ j (hj:j < (zbs a 7).length),j < i→decide ((zbs a 7)[j]'hj=b)=false) (fun i=>[(6,iv i)]) (fun _=>[(2,a.enc),(3,b.enc)]) [(256,256)] (fun i=>(zbs a 7).length - i) 0 ⟨Nat.zero_le _,fun j _ h=>absurd h (Nat.not_lt_zero _)⟩ ?_ ?_
 ·exact wkE
 rintro i ⟨hi,hp⟩
 refine tS ?_ ?_<;>intro h
 ·simp only [List.length_map] at h
  have hlt:i < (zbs a 7).length:=by omega
  refine ⟨by simp only [List.length_map];omega,?_⟩
  conv=>whnf
  refine ⟨_,by rw [Nat.zero_add];exact za3 hlt,?_⟩
  refine tC (zi4 ((zbs a 7)[i]'hlt) b) ?_
  refine tS ?_ ?_<;>intro h
  ·refine zaa rfl ?_
   have:=any_at (p:=fun x:Conf=>decide (x=b)) hlt (by simpa using h)
   simp [nearL,ha,hb,this]
  ·refine ⟨i+1,⟨⟨by omega,?_⟩,by omega⟩,?_⟩
   ·intro j hj hji
    by_cases e:j=i
    ·subst e;simpa using h
    ·exact hp j hj (by omega)
   ·exact wkE
 ·simp only [List.length_map] at h
  have:i=(zbs a 7).length:=by omega
  subst this
  refine tC (zi4 a b) ?_
  refine zaa rfl ?_
  have:=z3m (p:=fun x:Conf=>decide (x=b)) fun j hj=>hp j hj hj
  simp only [nearL,ha,hb,this,Bool.true_and,Bool.false_or]
theorem zzb (bs:ByteArray):∀ n i r,bs.size - i=n→ByteArray.toList.loop bs i r=r.reverse++bs.data.toList.drop i
 | 0,i,r,h=>by
  rw [ByteArray.toList.loop,if_neg (by omega),List.drop_eq_nil_of_le (by simp only [Array.length_toList];have:bs.data.size=bs.size:=rfl;omega),List.append_nil]
 | n+1,i,r,h=>by
  have hlt:i < bs.size:=by omega
  have hlt':i < bs.data.toList.length:=by simpa using hlt
  rw [ByteArray.toList.loop,if_pos hlt,zzb bs n (i+1) _ (by omega),List.drop_eq_getElem_cons hlt']
  have:bs.get! i=bs.data.toList[i]:=by
   show bs.data[i]! = _
   rw [getElem!_pos bs.data i hlt];simp
  simp [this]
theorem bl_eq (bs:ByteArray):bs.toList=bs.data.toList:=by
 show ByteArray.toList.loop bs 0 []=_
 rw [zzb bs _ 0 [] rfl];simp
theorem zux {a b:ByteArray}:a.toList=b.toList ↔ a=b:=by
 constructor
 ·intro h
  rw [bl_eq,bl_eq] at h
  exact ByteArray.ext (Array.ext' h)
 ·intro h;rw [h]
theorem znn (a b:ByteArray):(a.toList == b.toList)=decide (a=b):=by
 rw [Bool.eq_iff_iff,beq_iff_eq,decide_eq_true_eq,zux]
def fnan (x:Nat):Bool:=FloatKind.f64.format.order x x != some .eq
abbrev zge:Nat:=9221120237041090561
theorem zs8:fnan zge=true:=by decide +kernel
def zbk (x:Nat):Nat:=if fnan x then zge else x
theorem zin {a b:Nat}:zbk a=zbk b ↔ (fnan a=true∧fnan b=true)∨a=b:=by
 unfold zbk
 cases ha:fnan a<;>cases hb:fnan b<;>simp
 ·constructor
  ·intro e;subst e;rw [zs8] at ha;cases ha
  ·intro e;subst e;rw [ha] at hb;cases hb
 ·constructor
  ·intro e;subst e;rw [zs8] at hb;cases hb
  ·intro e;subst e;rw [ha] at hb;cases hb
abbrev VVal.nrm (v:VVal):VVal:=⟨v.kind,zbk v.num,v.text⟩
abbrev VCmd.nrm (c:VCmd):VCmd:=⟨c.kind,c.key,c.old.nrm,c.val.nrm⟩
abbrev VCall.nrm (c:VCall):VCall:=⟨c.client,c.seq,c.cmd.nrm⟩
abbrev Ent.nrm (x:Ent):Ent:=⟨x.term,x.kind,x.call.nrm,x.conf⟩
theorem c_Float (a b:Nat):Ctr Tryz.prog 223 [.sc (.float .f64 a),.sc (.float .f64 b)] (bv (decide (zbk a=zbk b))) []:=by
 refine sBody Tryz.func223 ?_;conv=>whnf
 refine tS ?_ ?_<;>intro h
 ·have ha:fnan a=true:=h
  refine tS ?_ ?_<;>intro h
  ·have hb:fnan b=true:=h
   exact zaa rfl (by rw [decide_eq_true (zin.2 (.inl ⟨ha,hb⟩))])
  ·have hb:fnan b=false:=h
   refine tC (zfy a) ?_
   refine tC (zfy b) ?_
   refine zaa rfl ?_
   have e:(zbk a=zbk b) ↔ ((a:Int)=(b:Int)):=by rw [zin,hb];simp;omega
   show bv ((a:Int) == (b:Int))=_
   rw [decide_eq_decide.2 e];rfl
 ·have ha:fnan a=false:=h
  refine tC (zfy a) ?_
  refine tC (zfy b) ?_
  refine zaa rfl ?_
  have e:(zbk a=zbk b) ↔ ((a:Int)=(b:Int)):=by rw [zin,ha];simp;omega
  show bv ((a:Int) == (b:Int))=_
  rw [decide_eq_decide.2 e];rfl
theorem VVal.nrm_eq {a b:VVal}:a.nrm=b.nrm ↔ a.kind=b.kind∧zbk a.num=zbk b.num∧a.text=b.text:=by
 cases a;cases b;simp [VVal.nrm]
theorem VVal.nrm_dec (a b:VVal):decide (a.nrm=b.nrm)=decide (a.kind=b.kind∧zbk a.num=zbk b.num∧a.text=b.text):=decide_eq_decide.2 VVal.nrm_eq
theorem VCmd.nrm_eq {a b:VCmd}:a.nrm=b.nrm ↔ a.kind=b.kind∧a.key=b.key∧a.old.nrm=b.old.nrm∧a.val.nrm=b.val.nrm:=by
 cases a;cases b;simp [VCmd.nrm]
theorem VCmd.nrm_dec (a b:VCmd):decide (a.nrm=b.nrm)=decide (a.kind=b.kind∧a.key=b.key∧a.old.nrm=b.old.nrm∧a.val.nrm=b.val.nrm):=decide_eq_decide.2 VCmd.nrm_eq
theorem VCall.nrm_eq {a b:VCall}:a.nrm=b.nrm ↔ a.client=b.client∧a.seq=b.seq∧a.cmd.nrm=b.cmd.nrm:=by
 cases a;cases b;simp [VCall.nrm]
theorem VCall.nrm_dec (a b:VCall):decide (a.nrm=b.nrm)=decide (a.client=b.client∧a.seq=b.seq∧a.cmd.nrm=b.cmd.nrm):=decide_eq_decide.2 VCall.nrm_eq
theorem Ent.nrm_eq {a b:Ent}:a.nrm=b.nrm ↔ a.term=b.term∧a.kind=b.kind∧a.call.nrm=b.call.nrm∧a.conf=b.conf:=by
 cases a;cases b;simp [Ent.nrm]
theorem Ent.nrm_dec (a b:Ent):decide (a.nrm=b.nrm)=decide (a.term=b.term∧a.kind=b.kind∧a.call.nrm=b.call.nrm∧a.conf=b.conf):=decide_eq_decide.2 Ent.nrm_eq
theorem ztx (a b:VVal):Ctr Tryz.prog 213 [.ag a.enc,.ag b.enc] (bv (decide (a.nrm=b.nrm))) []:=by
 rw [VVal.nrm_dec]
 refine sBody Tryz.func213 ?_;conv=>whnf
 repeat' (first | (refine tS ?_ ?_<;>intro h) | refine tC (c_Float a.num b.num) ?_ | fail)
 all_goals (refine zaa rfl ?_)
 all_goals simp_all [zux,znn]
theorem c_kCmd (a b:VCmd):Ctr Tryz.prog 193 [.ag a.enc,.ag b.enc] (bv (decide (a.nrm=b.nrm))) []:=by
 rw [VCmd.nrm_dec]
 refine sBody Tryz.func193 ?_;conv=>whnf
 repeat' (first | (refine tS ?_ ?_<;>intro h) | (first | refine tC (ztx a.old b.old) ?_ | refine tC (ztx a.val b.val) ?_) | fail)
 all_goals (refine zaa rfl ?_)
 all_goals simp_all [zux,znn]
theorem zxx (a b:VCall):Ctr Tryz.prog 136 [.ag a.enc,.ag b.enc] (bv (decide (a.nrm=b.nrm))) []:=by
 rw [VCall.nrm_dec]
 refine sBody Tryz.func136 ?_;conv=>whnf
 repeat' (first | (refine tS ?_ ?_<;>intro h) | refine tC (c_kCmd a.cmd b.cmd) ?_ | fail)
 all_goals (refine zaa rfl ?_)
 all_goals simp_all
theorem z4a (a b:Ent):Ctr Tryz.prog 55 [.ag a.enc,.ag b.enc] (bv (decide (a.nrm=b.nrm))) []:=by
 rw [Ent.nrm_dec]
 refine sBody Tryz.func55 ?_;conv=>whnf
 repeat' (first | (refine tS ?_ ?_<;>intro h) | (first | refine tC (zxx a.call b.call) ?_ | refine tC (zi4 a.conf b.conf) ?_) | fail)
 all_goals (refine zaa rfl ?_)
 all_goals simp_all
theorem c_IsNaN (x:Nat):Ctr Tryz.prog 224 [.sc (.float .f64 x)] (bv (fnan x)) []:=by
 refine sBody Tryz.func224 ?_;conv=>whnf
 exact zaa rfl rfl
theorem zng (x:Nat) (h:x < 18446744073709551616):Ctr Tryz.prog 230 [.sc (.int .u64 x)] (.sc (.float .f64 x)) []:=by
 refine znb (e:=Go.Extern.MathFloatBits.float64frombits) Tryz.func230 (by kernel_rfl) (by kernel_rfl) (by kernel_rfl) (by kernel_rfl) ?_
 intro w M vs hv
 simp only [RVL,RV] at hv
 obtain ⟨c,r,rfl,rfl,rfl⟩:=hv
 rfl
theorem c_nan:Ctr Tryz.prog 225 [] (.sc (.float .f64 zge)) []:=by
 have h:=zng zge (by decide)
 refine sBody Tryz.func225 ?_;conv=>whnf
 refine tC h ?_
 exact zaa rfl rfl
theorem zsn (x:Nat):Ctr Tryz.prog 215 [.sc (.float .f64 x)] (.sc (.float .f64 (zbk x))) []:=by
 refine sBody Tryz.func215 ?_;conv=>whnf
 refine tC (c_IsNaN x) ?_
 refine tS ?_ ?_<;>intro h
 ·refine tC c_nan ?_
  exact zaa rfl (by simp [zbk,h])
 ·exact zaa rfl (by simp [zbk,h])
theorem c_nSame (a b:Nat):Ctr Tryz.prog 194 [.sc (.float .f64 a),.sc (.float .f64 b)] (bv (decide (zbk a=zbk b))) []:=by
 refine sBody Tryz.func194 ?_;conv=>whnf
 refine tC (zsn a) ?_
 refine tC (zfy (zbk a)) ?_
 refine tC (zsn b) ?_
 refine tC (zfy (zbk b)) ?_
 refine zaa rfl ?_
 show bv ((zbk a:Int) == (zbk b:Int))=_
 have e:(zbk a=zbk b) ↔ ((zbk a:Int)=(zbk b:Int)):=by omega
 rw [decide_eq_decide.2 e];rfl
noncomputable def dec (p:Prop):Bool:=@decide p (Classical.propDecidable p)
theorem ze0 {p:Prop} (h:p):dec p=true:=by unfold dec;simp [h]
theorem zla {p:Prop} (h:¬ p):dec p=false:=by unfold dec;simp [h]
abbrev entE (r:Rft) (k:Int):Ent:=(entAt r.hard k).getD ez
structure Rft.small (r:Rft):Prop where
 log:r.hard.log.length≤4294967296
 base:isI r.hard.base
 snap:r.hard.snap.length≤4294967296
 reads:r.reads.length≤4294967296
theorem Rft.small.len {r:Rft} (h:r.small):r.hard.log.length≤maxLen:=zad h.log
theorem zba {kb:List Nat}{rn:List (Nat×Nat)}{fz:List (Nat×Bool×Nat×List (List PV))}{k n:Nat}{b:Bool}{sz:Nat}{rows:List (List PV)} (h:(k,b,sz,rows) ∈ fz) (hn:n=rows.length):WkV kb rn fz (.ow k 0 n) (.sl sz rows):=by
 subst hn
 simp only [WkV]
 exact .inr (.inr ⟨k,0,_,b,rows,rfl,h,by omega,by simp⟩)
theorem za4 (r:Rft) (h:r.small):Ctr Tryz.prog 32 [.ag r.enc] (.ag r.enc) []:=by
 refine Ctr.frz (zfb r h.snap h.log h.reads) (zao ?_)
 conv=>whnf
 repeat' (first | exact rfl | ((with_reducible refine And.intro ?_ ?_)<;>(first | (with_reducible exact zae _ rfl) | exact zba (b:=false) (List.Mem.head _) rfl | exact zba (b:=false) (List.Mem.tail _ (List.Mem.head _)) rfl | exact zba (b:=false) (List.Mem.tail _ (List.Mem.tail _ (List.Mem.head _))) rfl | (conv=>whnf))))
end Go.Proofs
