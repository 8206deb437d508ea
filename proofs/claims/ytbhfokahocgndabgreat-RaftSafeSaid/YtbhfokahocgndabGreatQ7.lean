import Derived.Test.YtbhfokahocgndabGreatPvQ3
import Derived.Test.YtbhfokahocgndabGreatI8
/- Contracts of functions: a leader's tick. (genQ7.py prints this) -/
set_option linter.unusedSimpArgs false
set_option linter.unusedVariables false
set_option maxHeartbeats 16000000
namespace Go.Proofs
open Go.Pv
set_option maxRecDepth 100000
abbrev sil1 (a:Arr) (v:Int):Arr:=a.put v.toNat (farM (a.at v.toNat+1))
abbrev silL (a:Arr) (l:List Int):Arr:=l.foldl sil1 a
theorem zqt (a:Arr) {l:List Int}{i:Nat} (h:i < l.length):silL a (l.take (i+1))=sil1 (silL a (l.take i)) (l[i]'h):=by
 unfold silL
 rw [List.take_succ_eq_append_getElem h,List.foldl_append];rfl
abbrev beat1 (r:Rft):Rft:={ r with round:=farM (r.round+1) }
noncomputable abbrev beatR (r:Rft):Rft:={ beat1 r with silent:=silL r.silent (allL r) }
noncomputable def zds (id:Int) (s:Arr):Nat→Int
 | 0=>shl 1 id
 | k+1=>if ¬ (k:Int)=id∧s.at k < 12 then bor (zds id s k) (shl 1 k) else zds id s k
def Arr.fitF (a:Arr):Prop:=∀ i,i < 7→0≤a.at i∧a.at i≤1099511627776
theorem sil_fit {a:Arr} (h:a.fitF) {v:Int} (hv:0≤v∧v < 7):(sil1 a v).fitF:=by
 have hx:=h v.toNat (by omega)
 have hf:0≤farM (a.at v.toNat+1)∧farM (a.at v.toNat+1)≤1099511627776:=by unfold farM;split<;>omega
 intro i hi
 unfold sil1
 generalize farM (a.at v.toNat+1)=n at *
 have hi':=h i hi
 rcases zct hv with e | e | e | e | e | e | e<;>rw [e] <;>
 rcases (by omega:i=0∨i=1∨i=2∨i=3∨i=4∨i=5∨i=6) with rfl | rfl | rfl | rfl | rfl | rfl | rfl <;>
 first | exact hi' | exact hf
theorem zg1 {a:Arr} (h:a.fitF):∀ {l:List Int} (_:∀ v ∈ l,0≤v∧v < 7),(silL a l).fitF
 | [],_=>h
 | v :: l,hl=>zg1 (sil_fit h (hl v (List.mem_cons_self ..))) (l:=l) fun w hw=>hl w (List.mem_cons_of_mem _ hw)
theorem zy6 (r:Rft) (out:List (List PV)) (bits:Int):CtrE Tryz.prog 112 [.pt 9990 0,iv bits] [(9990,repFI r out)] [(9990,rdO r),(9991,some (false,16,out))] (.ow 1 0 ((othN r.id bits 7).map encI).length) [(9990,repFI r out)] [(9990,rdO r),(9991,some (false,16,out)),(1,some (false,1,(othN r.id bits 7).map encI))]:=by
 refine zaj Tryz.func112 ?_;conv=>whnf
 refine zs5 5 1002 1 rfl rfl ?_
 conv=>whnf
 refine tFor (fun i:Nat=>i≤7) (fun i=>[(7,iv i),(5,.ow 1002 0 ((othN r.id bits i).map encI).length)]) (fun _=>[(9990,repFI r out)]) (fun i=>[(9990,rdO r),(9991,some (false,16,out)),(1002,some (false,1,(othN r.id bits i).map encI))]) [(9990,9990),(9991,9991),(1002,1002)] (fun i=>7 - i) 0 (Nat.zero_le _) ?_ ?_
 ·exact wkE
 intro i hi
 have hl:=zc5 r.id bits i
 have hlm:((othN r.id bits i).map encI).length=(othN r.id bits i).length:=List.length_map ..
 refine tS ?_ ?_<;>intro h
 ·have hlt:i < 7:=by omega
  clear h
  have hb:iand .i64 (ishr .i64 bits (i:Int)) 1=nb (tb bits i):=zes bits i (by omega)
  refine tS ?_ ?_<;>intro h
  ·have hne:¬ (i:Int)=r.id:=h
   clear h
   refine tK2 ?_
   rw [hb]
   cases ht:tb bits i with
   | true =>
    have hy:=zgq hne ht
    have hy:(othN r.id bits (i+1)).map encI=(othN r.id bits i).map encI++[encI (i:Int)]:=by rw [hy,List.map_append];rfl
    conv=>whnf
    have b1:(((othN r.id bits i).map encI).length+1) * 8≤140737488355328:=by omega
    have b2:((othN r.id bits i).map encI).length+1≤maxLen:=zad (by omega)
    refine tAB b1 b2 ?_
    refine ⟨i+1,[(9990,9990),(9991,9991),(1002,432)],⟨by omega,by omega⟩,?_⟩
    rw [hy]
    exact wkB
   | false =>
    have hn:=zf1 (id:=r.id) (i:=i) (.inr ht)
    conv=>whnf
    refine ⟨i+1,[(9990,9990),(9991,9991),(1002,1002)],⟨by omega,by omega⟩,?_⟩
    rw [hn]
    exact wkE
  ·have he:(i:Int)=r.id:=by first | exact h | exact Classical.byContradiction h
   have hn:=zf1 (bits:=bits) (i:=i) (.inl he)
   clear h
   refine ⟨i+1,[(9990,9990),(9991,9991),(1002,1002)],⟨by omega,by omega⟩,?_⟩
   rw [hn]
   exact wkE
 ·have ei:i=7:=by omega
  subst ei
  exact eX [(9990,9990),(9991,9991),(1,1002)]
noncomputable def goB (r:Rft):Bool:=zak (zab r) (zds r.id (beatR r).silent 7) && (zbx (beatR r) || !decide ((force r.hard (lastI r.hard)).2≤r.commit))
def nowP (x:Rft) (i:Int):Bool:=decide (x.mtch.at i.toNat=lastI x.hard) && decide (x.silent.at i.toNat < 6)
abbrev nowM (x:Rft) (i:Int):List PV:=msgV 8 x.id i x.hard.term 0 0 0 0 false .nl cz .nl
def nowL (x:Rft) (l:List Int):List (List PV):=match l.find? (nowP x) with
 | some i=>[nowM x i]
 | none=>[]
noncomputable def witB (x:Rft):Bool:=(kindR (zab x) x.id).toList == (ByteArray.mk #[119,105,116]).toList
noncomputable def nowO (x:Rft):List (List PV):=if witB x=true then nowL x (othN x.id (zab x).full 7) else []
theorem find_at {P:Int→Bool}{l:List Int}{i:Nat} (hi:i < l.length) (h:∀ j (hj:j < l.length),j < i→P (l[j]'hj)=false) (hp:P (l[i]'hi)=true):l.find? P=some (l[i]'hi):=by
 rw [List.find?_eq_some_iff_getElem]
 exact ⟨hp,i,hi,rfl,fun j hj=>by rw [h j (by omega) hj];rfl⟩
theorem find_no {P:Int→Bool}{l:List Int} (h:∀ j (hj:j < l.length),P (l[j]'hj)=false):l.find? P=none:=by
 rw [List.find?_eq_none]
 intro x hx
 obtain ⟨j,hj,rfl⟩:=List.getElem_of_mem hx
 rw [h j hj];decide
noncomputable def beatF (r:Rft):Rft:=if goB r=true then beatR r else fallR (beatR r) r.hard.term (-1)
noncomputable def beatO (r:Rft):List (List PV):=if goB r=true then (allL r).map (zar (beatR r))++nowO (beatR r) else []
theorem zqv (r : Rft) (hf : Fit r) (out : List (List PV)) (ho : out.length ≤ 3000000) :
    CtrE Tryz.prog 45 [.pt 9990 0] [(9990,repI r out)] (obI r out) (.tu []) [(9990,repX (beatF r) (out++beatO r))] obX:=by
 have hb:=hf.base
 have hl0:=hf.log
 have hid:=hf.id
 have hR:=hf.round
 have hm:r.hard.log.length≤maxLen:=zad (by omega)
 have kc:=zdp r hm
 have kl:=zc1 r.hard hm
 have kfc:=zkd r.hard hm (lastI r.hard)
 have hgo:goB r=(zak (zab r) (zds r.id (beatR r).silent 7) && (zbx (beatR r) || !decide ((force r.hard (lastI r.hard)).2≤r.commit))):=rfl
 have kfa:=zed (beatR r) hm out r.hard.term (-1)
 have kvo:=zor (beatR r) hm
 have ksa:=zp0 (beatR r) ⟨by show r.hard.log.length≤_;omega,hf.snap,hf.base,fun i hi=>by have:=hf.next i hi;show isI (r.next.at i);unfold isI;omega⟩ out (by omega)
 unfold beatF beatO
 have ka:=c_All (zab r)
 have ko:=zob (beat1 r) out (bor (bor (bor (zab r).full (zab r).wit) (zab r).learn) (zab r).lwit)
 have ew:IntKind.i64.wrap (r.round+1)=r.round+1:=zaf (by omega) (by omega)
 have hlen:(allL r).length≤7:=zc5 _ _ _
 have hin:∀ v ∈ allL r,0≤v∧v < 7:=fun v hv=>zfl hv
 have hvs:othN (beat1 r).id (bor (bor (bor (zab r).full (zab r).wit) (zab r).learn) (zab r).lwit) 7=allL r:=rfl
 rw [hvs] at ko
 generalize hvs2:allL r=vs at *
 have hvm:(vs.map encI).length=vs.length:=List.length_map ..
 refine zay mixed Tryz.func45 rfl (by kernel_rfl) (by kernel_rfl) ?_
 refine tQ ?_
 refine tO ?_
 refine tO ?_
 refine tO ?_
 refine tCE kc ?_
 refine tQ ?_
 refine tO ?_
 refine tO ?_
 refine tCE kl ?_
 refine tQ ?_
 refine tQ ?_
 rw [ew]
 refine tC ka ?_
 refine tE ([(9990,9990)],[(9990,9990),(9991,9991),(9992,9992),(9993,9993)],[(1,901)]) ko ?_
 refine tFor (fun i:Nat=>i≤vs.length) (fun i=>[(44,iv i)]) (fun i=>[(9990,repI { beat1 r with silent:=silL r.silent (vs.take i) } out),(2,(zab r).enc)]) (fun _=>[(9990,snO r),(9991,lgO r),(9992,rdO r),(9993,some (false,16,out)),(901,some (false,1,vs.map encI))]) [(9990,9990),(9991,9991),(9992,9992),(9993,9993),(901,901)] (fun i=>vs.length - i) 0 (Nat.zero_le _) ?_ ?_
 ·exact wkE
 intro i hi
 refine tS ?_ ?_<;>intro h
 ·have hlt:i < vs.length:=by omega
  clear h
  have hrow:(vs.map encI)[0+((i:Nat):Int).toNat]?=some (encI (vs[i]'hlt)):=by
   rw [Nat.zero_add,Int.toNat_natCast,List.getElem?_map,List.getElem?_eq_getElem hlt];rfl
  have hsucc:=zqt r.silent hlt
  have hv:=hin _ (List.getElem_mem hlt)
  have hS:(silL r.silent (vs.take i)).fitF:=zg1 hf.silent fun w hw=>hin w (List.mem_of_mem_take hw)
  generalize vs[i]'hlt=v at *
  generalize hSd:silL r.silent (vs.take i)=S at *
  refine ⟨⟨by omega,by omega⟩,?_⟩
  conv=>whnf
  refine ⟨_,hrow,?_⟩
  conv=>whnf
  refine ⟨⟨hv.1,hv.2⟩,?_⟩
  have hsn:=hS v.toNat (by omega)
  have ewj:IntKind.i64.wrap (S.at v.toNat+1)=S.at v.toNat+1:=zaf (by have:0≤S.at v.toNat∧S.at v.toNat≤1099511627776:=hsn;omega) (by have:0≤S.at v.toNat∧S.at v.toNat≤1099511627776:=hsn;omega)
  have hs1:sil1 S v=S.put v.toNat (farM (S.at v.toNat+1)):=rfl
  rcases zct hv with e | e | e | e | e | e | e
  all_goals
   rw [e] at ewj hs1 hsn
   simp only [Arr.at] at ewj hs1 hsn
   rw [e]
   conv=>whnf
   refine ⟨⟨hv.1,hv.2⟩,?_⟩
   rw [e]
   conv=>whnf
   refine ⟨i+1,[(9990,9990),(9991,9991),(9992,9992),(9993,9993),(901,901)],⟨by omega,by omega⟩,?_⟩
   rw [hsucc,hs1]
   (refine tWK ?_;and_intros<;>try exact ⟨⟩)
   all_goals first | exact w1 (by omega) | rfl | (rw [ewj];rfl) | trace_state
 ·have ei:i=vs.length:=by omega
  subst ei
  clear h
  rw [List.take_length]
  conv=>whnf
  subst hvs2
  have hSf:(beatR r).silent.fitF:=zg1 hf.silent hin
  have kb:=zym (beatR r) out hid
  refine tQ ?_
  refine tE0 ([(9990,9990)],[(9990,9990),(9991,9991),(9992,9992),(9993,9993)],[(999999,0)]) kb ?_
  refine tQ ?_
  refine tFor (fun k:Nat=>k≤7) (fun k=>[(71,iv k),(7,iv (zds r.id (beatR r).silent k))]) (fun _=>[(9990,repI (beatR r) out),(2,(zab r).enc)]) (fun _=>[(9990,snO r),(9991,lgO r),(9992,rdO r),(9993,some (false,16,out)),(901,some (false,1,(allL r).map encI))]) [(9990,9990),(9991,9991),(9992,9992),(9993,9993),(901,901)] (fun k=>7 - k) 0 (Nat.zero_le _) ?_ ?_
  ·exact wkE
  intro k hk
  rcases (by have hk:k≤7:=hk;omega:k < 7∨k=7) with hk7 | rfl
  ·have hy:¬ ((k:Nat):Int)=r.id→(beatR r).silent.at k < 12→zds r.id (beatR r).silent (k+1)=bor (zds r.id (beatR r).silent k) (shl 1 k):=fun a b=>if_pos ⟨a,b⟩
   have hn:¬ (¬ ((k:Nat):Int)=r.id∧(beatR r).silent.at k < 12)→zds r.id (beatR r).silent (k+1)=zds r.id (beatR r).silent k:=fun a=>if_neg a
   obtain ⟨kk,ekk⟩:∃ kk,kk=k+1:=⟨_,rfl⟩
   rcases (by omega:k=0∨k=1∨k=2∨k=3∨k=4∨k=5∨k=6) with rfl | rfl | rfl | rfl | rfl | rfl | rfl
   all_goals
    conv=>whnf
    refine tK2 ?_
    refine tS ?_ ?_<;>intro h
    ·have h1:=h
     clear h
     refine tS ?_ ?_<;>intro h
     ·have e:=hy h1 h
      clear h
      refine tK2 ?_
      refine ⟨kk,[(9990,9990),(9991,9991),(9992,9992),(9993,9993),(901,901)],⟨by show kk≤7;omega,by show 7 - kk < 7 - _;omega⟩,?_⟩
      subst ekk
      (refine tWK ?_;and_intros<;>try exact ⟨⟩)
      all_goals first | rfl | (rw [e];done) | (rw [e];rfl) | trace_state
     ·have e:=hn (fun a=>h a.2)
      clear h
      refine ⟨kk,[(9990,9990),(9991,9991),(9992,9992),(9993,9993),(901,901)],⟨by show kk≤7;omega,by show 7 - kk < 7 - _;omega⟩,?_⟩
      subst ekk
      (refine tWK ?_;and_intros<;>try exact ⟨⟩)
      all_goals first | rfl | (rw [e];done) | (rw [e];rfl) | trace_state
    ·have e:=hn (fun a=>a.1 (by first | exact h | exact Classical.byContradiction h))
     clear h
     refine ⟨kk,[(9990,9990),(9991,9991),(9992,9992),(9993,9993),(901,901)],⟨by show kk≤7;omega,by show 7 - kk < 7 - _;omega⟩,?_⟩
     subst ekk
     (refine tWK ?_;and_intros<;>try exact ⟨⟩)
     all_goals first | rfl | (rw [e];done) | (rw [e];rfl) | trace_state
  ·conv=>whnf
   refine tQ ?_
   refine tO ?_
   refine tO ?_
   refine tCE kfc ?_
   have kq:=zjz (zab r) (zds r.id (beatR r).silent 7)
   have kki:=z0f (zab r) r.id
   refine tCut (fun _:Unit=>goB r=true) (fun _=>[]) (fun _=>[(9990,repI (beatR r) out),(2,(zab r).enc),(10,(force r.hard (lastI r.hard)).1.enc)]) (fun _=>[(9990,snO r),(9991,lgO r),(9992,rdO r),(9993,some (false,16,out)),(901,some (false,1,(allL r).map encI))]) ?_ ?_
   ·conv=>whnf
    cases hq:zak (zab r) (zds r.id (beatR r).silent 7) with
    | false =>
     rw [hq] at kq
     have hg:goB r=false:=by rw [hgo,hq];rfl
     rw [hg,if_neg (show ¬ false=true by decide),if_neg (show ¬ false=true by decide),List.append_nil]
     refine tC kq ?_
     refine tE ([(9990,9990)],[(9990,9990),(9991,9991),(9992,9992),(9993,9993)],[(2,3000)]) kfa ?_
     (refine tV 9 9990 ?_;refine tV 10 9991 ?_;refine tV 39 3000 ?_;refine tV 40 9993 ?_;refine zcm [(9990,9990),(9991,9991),(9992,9992),(9993,9993)] [] ?_;(conv=>whnf);(refine tWK ?_;and_intros<;>try exact ⟨⟩))
     all_goals first | rfl | exact .inl rfl | (rw [zdh];exact .inl rfl) | (rw [zce];exact .inl rfl) | trace_state
    | true =>
     rw [hq] at kq
     cases hv:zbx (beatR r) with
     | true =>
      have hg:goB r=true:=by rw [hgo,hq,hv];rfl
      rw [show bitB (bor (zab (beatR r)).full (zab (beatR r)).wit) (beatR r).id=true from hv] at kvo
      refine tC kq ?_
      refine tO ?_
      refine tO ?_
      refine tO ?_
      refine tCE kvo ?_
      refine ⟨(),[(9990,9990),(9991,9991),(9992,9992),(9993,9993),(901,901)],hg,?_⟩
      exact wkE
     | false =>
      rw [show bitB (bor (zab (beatR r)).full (zab (beatR r)).wit) (beatR r).id=false from hv] at kvo
      by_cases hat:(force r.hard (lastI r.hard)).2≤r.commit
      ·have hg:goB r=false:=by rw [hgo,hq,hv,decide_eq_true hat];rfl
       rw [hg,if_neg (show ¬ false=true by decide),if_neg (show ¬ false=true by decide),List.append_nil]
       refine tC kq ?_
       refine tO ?_
       refine tO ?_
       refine tO ?_
       refine tCE kvo ?_
       refine tK ?_
       refine tE ([(9990,9990)],[(9990,9990),(9991,9991),(9992,9992),(9993,9993)],[(2,3000)]) kfa ?_
       (refine tV 9 9990 ?_;refine tV 10 9991 ?_;refine tV 39 3000 ?_;refine tV 40 9993 ?_;refine zcm [(9990,9990),(9991,9991),(9992,9992),(9993,9993)] [] ?_;(conv=>whnf);(refine tWK ?_;and_intros<;>try exact ⟨⟩))
       all_goals first | rfl | exact .inl rfl | (rw [zdh];exact .inl rfl) | (rw [zce];exact .inl rfl) | trace_state
      ·have hg:goB r=true:=by rw [hgo,hq,hv,decide_eq_false hat];rfl
       refine tC kq ?_
       refine tO ?_
       refine tO ?_
       refine tO ?_
       refine tCE kvo ?_
       refine tK ?_
       refine ⟨(),[(9990,9990),(9991,9991),(9992,9992),(9993,9993),(901,901)],hg,?_⟩
       exact wkE
   rintro _ hg
   rw [if_pos hg,if_pos hg]
   refine tZ ?_
   refine tE ([(9990,9990)],[(9990,9990),(9991,9991),(9992,9992),(9993,9993)],[(1,4000)]) ksa ?_
   refine tC kki ?_
   cases hw:witB (beatR r) with
   | false =>
    have hw2:((kindR (zab r) r.id).toList == (ByteArray.mk #[119,105,116]).toList)=false:=hw
    have hno:nowO (beatR r)=[]:=by unfold nowO;rw [hw];rfl
    rw [hno,List.append_nil]
    refine tK ?_
    (refine tV 39 9992 ?_;refine tV 40 4000 ?_;exact eX [(9990,9990),(9991,9991),(9992,9992),(9993,9993)])
   | true =>
    have hw2:((kindR (zab r) r.id).toList == (ByteArray.mk #[119,105,116]).toList)=true:=hw
    have hno:nowO (beatR r)=nowL (beatR r) (othN r.id (zab r).full 7):=by unfold nowO;rw [hw];rfl
    rw [hno]
    have hall:allL (beatR r)=allL r:=rfl
    rw [hall]
    have hws:∀ v ∈ othN r.id (zab r).full 7,0≤v∧v < 7:=fun v hv=>zfl hv
    have hwl:(othN r.id (zab r).full 7).length≤7:=zc5 _ _ _
    have ho1:(out++(allL r).map (zar (beatR r))).length≤4294967:=by rw [List.length_append,List.length_map];omega
    rw [← List.append_assoc]
    generalize hol:out++(allL r).map (zar (beatR r))=ot at *
    have kof:=zy6 (beatR r) ot (zab r).full
    have ks8:=fun v:Int=>ztt (beatR r) ot ho1 8 0 0 0 0 0 0 0 false cz v r.hard.term
    rw [show othN (beatR r).id (zab r).full 7=othN r.id (zab r).full 7 from rfl] at kof
    generalize othN r.id (zab r).full 7=ws at *
    have hwm:(ws.map encI).length=ws.length:=List.length_map ..
    refine tK ?_
    refine tE ([(9990,9990)],[(9990,9992),(9991,4000)],[(1,902)]) kof ?_
    refine tFor (fun i:Nat=>i≤ws.length∧∀ j (hj:j < ws.length),j < i→nowP (beatR r) (ws[j]'hj)=false) (fun i=>[(145,iv i)]) (fun _=>[(9990,repV (beatR r) (.sl 1 (r.hard.snap.map encB)) (.sl 16 (r.hard.log.map Ent.enc)) (rdW r 9992) (.ow 4000 0 ot.length)),(2,(zab r).enc),(10,(zab r).enc)]) (fun _=>[(9990,some (true,1,r.hard.snap.map encB)),(9991,some (true,16,r.hard.log.map Ent.enc)),(9992,rdO r),(9993,none),(4000,some (false,16,ot)),(902,some (false,1,ws.map encI)),(901,some (false,1,(allL r).map encI))]) [(9990,9990),(9991,9991),(9992,9992),(9993,9993),(4000,4000),(902,902),(901,901)] (fun i=>ws.length - i) 0 ⟨Nat.zero_le _,fun j _ h=>absurd h (Nat.not_lt_zero _)⟩ ?_ ?_
    ·exact wkE
    rintro i ⟨hi,hal⟩
    refine tS ?_ ?_<;>intro h
    ·have hlt:i < ws.length:=by omega
     clear h
     have hrow:(ws.map encI)[0+((i:Nat):Int).toNat]?=some (encI (ws[i]'hlt)):=by
      rw [Nat.zero_add,Int.toNat_natCast,List.getElem?_map,List.getElem?_eq_getElem hlt];rfl
     have hv:=hws _ (List.getElem_mem hlt)
     have hyes:nowP (beatR r) (ws[i]'hlt)=true→nowL (beatR r) ws=[nowM (beatR r) (ws[i]'hlt)]:=fun hp=>by unfold nowL;rw [find_at hlt hal hp]
     have hstep:nowP (beatR r) (ws[i]'hlt)=false→∀ j (hj:j < ws.length),j < i+1→nowP (beatR r) (ws[j]'hj)=false:=fun hp j hj hji=>by
      by_cases e:j=i
      ·subst e;exact hp
      ·exact hal j hj (by omega)
     have k8:=ks8 (ws[i]'hlt)
     generalize ws[i]'hlt=v at *
     refine ⟨⟨by omega,by omega⟩,?_⟩
     conv=>whnf
     refine ⟨_,hrow,?_⟩
     conv=>whnf
     refine ⟨⟨hv.1,hv.2⟩,?_⟩
     have hdef:nowP (beatR r) v=(decide ((beatR r).mtch.at v.toNat=lastI r.hard) && decide ((beatR r).silent.at v.toNat < 6)):=rfl
     rcases zct hv with e | e | e | e | e | e | e
     all_goals
      rw [e] at hdef
      simp only [Arr.at] at hdef
      rw [e]
      refine tS ?_ ?_<;>intro h
      ·have h1:=h
       clear h
       refine ⟨⟨hv.1,hv.2⟩,?_⟩
       rw [e]
       refine tS ?_ ?_<;>intro h
       ·rw [hyes (by rw [hdef,decide_eq_true h1,decide_eq_true h];rfl)]
        refine tE ([(9990,9990)],[(9990,9992),(9991,4000)],[(1,5000)]) k8 ?_
        (refine tV 39 9992 ?_;refine tV 40 5000 ?_;exact eX [(9990,9990),(9991,9991),(9992,9992),(9993,9993)])
       ·have hp:=hstep (by rw [hdef,decide_eq_false h,Bool.and_false])
        clear h
        refine ⟨i+1,[(9990,9990),(9991,9991),(9992,9992),(9993,9993),(4000,4000),(902,902),(901,901)],⟨⟨by omega,hp⟩,by omega⟩,?_⟩
        exact wkE
      ·have hp:=hstep (by rw [hdef,decide_eq_false h,Bool.false_and])
       clear h
       refine ⟨i+1,[(9990,9990),(9991,9991),(9992,9992),(9993,9993),(4000,4000),(902,902),(901,901)],⟨⟨by omega,hp⟩,by omega⟩,?_⟩
       exact wkE
    ·have ei:i=ws.length:=by omega
     have hnone:nowL (beatR r) ws=[]:=by
      unfold nowL
      rw [find_no fun j hj=>hal j hj (by omega)]
     rw [hnone,List.append_nil]
     (refine tV 39 9992 ?_;refine tV 40 4000 ?_;exact eX [(9990,9990),(9991,9991),(9992,9992),(9993,9993)])
end Go.Proofs
