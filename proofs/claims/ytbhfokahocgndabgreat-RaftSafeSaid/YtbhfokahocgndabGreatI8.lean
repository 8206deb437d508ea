import Derived.Test.YtbhfokahocgndabGreatPvQ3
import Derived.Test.YtbhfokahocgndabGreatH10
import Derived.Test.YtbhfokahocgndabGreatY2
import Derived.Test.YtbhfokahocgndabGreatC27
import Derived.Test.YtbhfokahocgndabGreatC57
import Derived.Test.YtbhfokahocgndabGreatC12
/- Contracts of functions: a message is taken, by its kind: one kind. (genH17.py writes this) -/
set_option linter.unusedSimpArgs false
set_option linter.unusedVariables false
set_option maxHeartbeats 8000000
namespace Go.Proofs
open Go.Pv
set_option maxRecDepth 100000
theorem z3d (r : Rft) (hf : Fit r) (out : List (List PV)) (ho : out.length ≤ 4000000) (m : Mg) (hfr : 0 ≤ m.frm ∧ m.frm < 7) (hmt : m.term ≤ 1099511627776) (heq : m.term = r.hard.term) (hix : 0 ≤ m.index ∧ m.index ≤ 1099511627776) (hmm : ∀ i, i < 7 → 0 ≤ r.mtch.at i ∧ r.mtch.at i ≤ lastI r.hard) :
    CtrE Tryz.prog 52 [.pt 9990 0,.ag (mkM m 6).enc] [(9990,repI r out)] (obI r out) (iv 0) [(9990,repX (zb8 r (mkM m 6)) (out++([]:List (List PV))))] obX:=by
 have hl0:=hf.log
 have hT0:=hf.term
 have hfx:=hf
 have hx0:¬ (mkM m 6).term < r.hard.term:=by show ¬ m.term < r.hard.term;omega
 have hg1:¬ r.hard.term < (mkM m 6).term:=by show ¬ r.hard.term < m.term;omega
 have hlx:=hfx.log
 have hmx:r.hard.log.length≤maxLen:=zad (by omega)
 have ka:=z1e r hfx out (mkM m 6) hfr hix hmm
 rw [List.append_nil]
 refine zaj Tryz.func52 ?_;conv=>whnf
 refine tK ?_
 refine tK ?_
 refine ⟨⟨by decide,hfr.1⟩,?_⟩
 conv=>whnf
 refine tE ([(9990,9990)],[(9990,9990),(9991,9991),(9992,9992),(9993,9993)],[]) ka ?_
 exact eX [(9990,9990),(9991,9991),(9992,9992),(9993,9993)]
theorem zxy (r : Rft) (hf : Fit r) (out : List (List PV)) (ho : out.length ≤ 4000000) (m : Mg) (hfr : 0 ≤ m.frm ∧ m.frm < 7) (hmt : m.term ≤ 1099511627776) (hgt : r.hard.term < m.term) (hix : 0 ≤ m.index ∧ m.index ≤ 1099511627776) (hmm : ∀ i, i < 7 → 0 ≤ (fallR r m.term (-1)).mtch.at i ∧ (fallR r m.term (-1)).mtch.at i ≤ lastI (fallR r m.term (-1)).hard) :
    CtrE Tryz.prog 52 [.pt 9990 0,.ag (mkM m 6).enc] [(9990,repI r out)] (obI r out) (iv 0) [(9990,repX (zb8 (fallR r m.term (-1)) (mkM m 6)) (out++([]:List (List PV))))] obX:=by
 have hl0:=hf.log
 have hT0:=hf.term
 have kf:=zed r (zad (by omega)) out m.term (-1)
 have hfx:=zbw hf (t:=m.term) (by omega) (-1)
 have hxt:=zbb hgt (-1)
 generalize fallR r m.term (-1)=x at *
 have hx0:¬ (mkM m 6).term < x.hard.term:=by show ¬ m.term < x.hard.term;omega
 have hg1:r.hard.term < (mkM m 6).term:=hgt
 have hlx:=hfx.log
 have hmx:x.hard.log.length≤maxLen:=zad (by omega)
 have ka:=z1e x hfx out (mkM m 6) hfr hix hmm
 rw [List.append_nil]
 refine zaj Tryz.func52 ?_;conv=>whnf
 refine tK ?_
 refine tE ([(9990,9990)],[(9990,9990),(9991,9991),(9992,9992),(9993,9993)],[(2,3000)]) kf ?_
 refine tK ?_
 refine ⟨⟨by decide,hfr.1⟩,?_⟩
 conv=>whnf
 refine tE ([(9990,9990)],[(9990,9990),(9991,9991),(9992,3000),(9993,9993)],[]) ka ?_
 exact eX [(9990,9990),(9991,9991),(9992,9992),(9993,9993)]
theorem z3f (r : Rft) (hf : Fit r) (out : List (List PV)) (ho : out.length ≤ 4000000) (m : Mg) (hfr : 0 ≤ m.frm ∧ m.frm < 7) (hmt : m.term ≤ 1099511627776) (heq : m.term = r.hard.term) :
    CtrE Tryz.prog 52 [.pt 9990 0,.ag (mkM m 8).enc] [(9990,repI r out)] (obI r out) (iv 0) [(9990,repX (k8R r (mkM m 8)) (out++k8O r (mkM m 8)))] obX:=by
 have hl0:=hf.log
 have hT0:=hf.term
 have hfx:=hf
 have hx0:¬ (mkM m 8).term < r.hard.term:=by show ¬ m.term < r.hard.term;omega
 have hg1:¬ r.hard.term < (mkM m 8).term:=by show ¬ r.hard.term < m.term;omega
 have hlx:=hfx.log
 have hmx:r.hard.log.length≤maxLen:=zad (by omega)
 have kv:=zor r hmx
 have kst:=zkc r hfx out ho
 refine zaj Tryz.func52 ?_;conv=>whnf
 refine tK ?_
 refine tK ?_
 refine ⟨⟨by decide,hfr.1⟩,?_⟩
 conv=>whnf
 unfold k8R k8O
 refine tO ?_
 refine tO ?_
 refine tO ?_
 cases hq:zbx r with
 | true =>
  rw [show bitB (bor (zab r).full (zab r).wit) r.id=true from hq] at kv
  rw [if_pos rfl,if_pos rfl]
  refine tCE kv ?_
  refine tS ?_ ?_<;>intro h
  ·have h:r.lead=m.frm:=h
   rw [if_pos h,if_pos h]
   refine tE ([(9990,9990)],[(9990,9990),(9991,9991),(9992,9992),(9993,9993)],[]) kst ?_
   exact eX [(9990,9990),(9991,9991),(9992,9992),(9993,9993)]
  ·have h:¬ r.lead=m.frm:=h
   rw [if_neg h,if_neg h,List.append_nil]
   exact eV
 | false =>
  rw [show bitB (bor (zab r).full (zab r).wit) r.id=false from hq] at kv
  rw [if_neg (show ¬ false=true by decide),if_neg (show ¬ false=true by decide),List.append_nil]
  refine tCE kv ?_
  exact eV
theorem zxh (r : Rft) (hf : Fit r) (out : List (List PV)) (ho : out.length ≤ 4000000) (m : Mg) (hfr : 0 ≤ m.frm ∧ m.frm < 7) (hmt : m.term ≤ 1099511627776) (hgt : r.hard.term < m.term) :
    CtrE Tryz.prog 52 [.pt 9990 0,.ag (mkM m 8).enc] [(9990,repI r out)] (obI r out) (iv 0) [(9990,repX (k8R (fallR r m.term (-1)) (mkM m 8)) (out++k8O (fallR r m.term (-1)) (mkM m 8)))] obX:=by
 have hl0:=hf.log
 have hT0:=hf.term
 have kf:=zed r (zad (by omega)) out m.term (-1)
 have hfx:=zbw hf (t:=m.term) (by omega) (-1)
 have hxt:=zbb hgt (-1)
 generalize fallR r m.term (-1)=x at *
 have hx0:¬ (mkM m 8).term < x.hard.term:=by show ¬ m.term < x.hard.term;omega
 have hg1:r.hard.term < (mkM m 8).term:=hgt
 have hlx:=hfx.log
 have hmx:x.hard.log.length≤maxLen:=zad (by omega)
 have kv:=zor x hmx
 have kst:=zkc x hfx out ho
 refine zaj Tryz.func52 ?_;conv=>whnf
 refine tK ?_
 refine tE ([(9990,9990)],[(9990,9990),(9991,9991),(9992,9992),(9993,9993)],[(2,3000)]) kf ?_
 refine tK ?_
 refine ⟨⟨by decide,hfr.1⟩,?_⟩
 conv=>whnf
 unfold k8R k8O
 refine tO ?_
 refine tO ?_
 refine tO ?_
 cases hq:zbx x with
 | true =>
  rw [show bitB (bor (zab x).full (zab x).wit) x.id=true from hq] at kv
  rw [if_pos rfl,if_pos rfl]
  refine tCE kv ?_
  refine tS ?_ ?_<;>intro h
  ·have h:x.lead=m.frm:=h
   rw [if_pos h,if_pos h]
   refine tE ([(9990,9990)],[(9990,9990),(9991,9991),(9992,3000),(9993,9993)],[]) kst ?_
   exact eX [(9990,9990),(9991,9991),(9992,9992),(9993,9993)]
  ·have h:¬ x.lead=m.frm:=h
   rw [if_neg h,if_neg h,List.append_nil]
   (refine tV 9 9990 ?_;refine tV 10 9991 ?_;refine tV 39 3000 ?_;refine tV 40 9993 ?_;exact eX [(9990,9990),(9991,9991),(9992,9992),(9993,9993)])
 | false =>
  rw [show bitB (bor (zab x).full (zab x).wit) x.id=false from hq] at kv
  rw [if_neg (show ¬ false=true by decide),if_neg (show ¬ false=true by decide),List.append_nil]
  refine tCE kv ?_
  (refine tV 9 9990 ?_;refine tV 10 9991 ?_;refine tV 39 3000 ?_;refine tV 40 9993 ?_;exact eX [(9990,9990),(9991,9991),(9992,9992),(9993,9993)])
abbrev hc (c:Conf):Hrd:=⟨0,-1,0,0,c,[],[]⟩
abbrev ak (c:Conf) (id role votes wait quiet:Int):Rft:=⟨id,hc c,0,role,-1,wait,quiet,votes,0,zA,zA,zA,[]⟩
theorem z4d (c:Conf) (id ro vo w q:Int):zab (ak c id ro vo w q)=c:=rfl
theorem ztw (c:Conf) (id ro vo w q:Int):zbx (ak c id ro vo w q)=bitB (bor c.full c.wit) id:=rfl
theorem tick_w {c:Conf}{id:Int} (hv:bitB (bor c.full c.wit) id=true) (ro vo:Int) {w:Int} (hw:1 < w) (q:Int):tickR (ak c id ro vo w q)=ak c id ro vo (w - 1) (farM (q+1))∧tickO (ak c id ro vo w q)=[]:=by
 have hv:¬ zbx (ak c id ro vo w q)=false:=by rw [ztw,hv];decide
 have hz:zeroM (w - 1)=w - 1:=if_neg (by omega)
 have hw:0 < zeroM ((ak c id ro vo w q).wait - 1):=by show 0 < zeroM (w - 1);rw [hz];omega
 have e:tw (ak c id ro vo w q)=ak c id ro vo (zeroM (w - 1)) (farM (q+1)):=rfl
 unfold tickR tickO
 rw [if_neg hv,if_pos hw,if_neg hv,if_pos hw,e,hz]
 exact ⟨rfl,rfl⟩
theorem ta_eq (c:Conf) (id ro vo:Int) (q:Int):taR (ak c id ro vo 1 q)=ak c id 1 (shl 1 id) (delay c id) (farM (q+1)):=rfl
theorem zn5 {c:Conf} (hc':confB c=true) {id ro vo w q:Int} (hid:0≤id∧id < 7) (hr:0≤ro∧ro≤3) (hn:ro ≠ 3) (hvo:0≤vo∧vo≤127) (hw:0≤w∧w≤100) (hq:0≤q∧q≤1099511627776):zbu (ak c id ro vo w q)=true:=by
 have h1:hardB (hc c)=true:=by
  unfold hardB
  rw [show (hc c).baseConf=c from rfl,hc']
  have hA:HardA (hc c):=⟨by show (0:Int)≤0∧(0:Int)≤1099511627776;decide,by show (-1:Int)≤-1∧(-1:Int)≤6;decide,by show (0:Int)≤0∧(0:Int)≤1099511627776;decide,by show (0:Int)≤0∧(0:Int)≤0;decide,by show (0:Int)=0 ↔ (0:Int)=0;decide⟩
  rw [ze0 hA];rfl
 have h2:inR 6 id=true:=zac (by omega)
 have h3:inR 3 ro=true:=zac hr
 have h4:inR 100 w=true:=zac hw
 have h5:inR far q=true:=zac hq
 have h6:inR 127 vo=true:=zac hvo
 have h7:lastI (hc c)=0:=rfl
 have h8:rdsB (ak c id ro vo w q)=true:=by
  unfold rdsB
  rw [if_neg (by show ¬ 4 < 0;omega),if_neg (by show ¬ (0 < 0∧_);omega)];rfl
 have hz:arrR far zA=true:=by decide
 have hz0:arrR (lastI (hc c)) zA=true:=by rw [h7];decide
 unfold zbu
 simp only [Bool.and_eq_true,decide_eq_true_eq]
 exact ⟨h1,h2,by show (0:Int)≤0;decide,by show (0:Int)≤lastI (hc c);rw [h7];decide,h3,by show (-1:Int)≤-1;decide,by show (-1:Int) < 7;decide,h4,⟨h5,by show inR far 0=true;decide⟩,h6,hz,hz0,hz,h8,by rw [if_neg (by exact hn)]⟩
abbrev c18:Conf:=⟨1,0,0,0⟩
theorem v18:bitB (bor c18.full c18.wit) 0=true:=by simp only [bitB,bor,band,zfs,zhx];kernel_rfl
theorem d18:delay c18 0=6:=by simp only [delay,bitB,band,zfs];kernel_rfl
theorem k18:confB c18=true:=by simp only [confB,bor,band,zfs,zhx];kernel_rfl
theorem q18:zak c18 (shl 1 0)=true:=by
 unfold zak
 have e1:count (bor c18.full c18.wit)=1:=by simp only [count,cnt,bor,zhx];kernel_rfl
 have e2:count (band (bor c18.full c18.wit) (shl 1 0))=1:=by simp only [count,cnt,bor,band,shl,zhx,zfs];kernel_rfl
 rw [e1,e2];rfl
theorem s18 (c:Conf) (id ro vo w q:Int):zab (stdR (ak c id ro vo w q))=c:=rfl
theorem t18 (q:Int):tickR (ak c18 0 0 0 1 q)=leadR (stdR (taR (ak c18 0 0 0 1 q))):=by
 have hv:¬ zbx (ak c18 0 0 0 1 q)=false:=by rw [ztw,v18];decide
 have hw:¬ 0 < zeroM ((ak c18 0 0 0 1 q).wait - 1):=by show ¬ 0 < zeroM (1 - 1);decide
 have hq:zak (zab (taR (ak c18 0 0 0 1 q))) (shl 1 (ak c18 0 0 0 1 q).id)=true:=by
  rw [ta_eq,z4d];exact q18
 unfold tickR
 rw [if_neg hv,if_neg hw,if_pos hq]
 unfold ze2
 rw [if_neg (by rw [ta_eq];show ¬ (0:Int)=1099511627776;decide),if_pos (by rw [ta_eq,s18];exact q18)]
theorem l18 (q:Int):(leadR (stdR (taR (ak c18 0 0 0 1 q)))).commit=1:=by
 show zc9 (logR (led0 (stdR (taR (ak c18 0 0 0 1 q)))) (et 1)) 0 (zA.put 0 (lastI (logR (led0 (stdR (taR (ak c18 0 0 0 1 q)))) (et 1))))=1
 have eh:logR (led0 (stdR (taR (ak c18 0 0 0 1 q)))) (et 1)=⟨1,0,0,0,c18,[],[et 1]⟩:=rfl
 rw [eh]
 have el:lastI ⟨1,0,0,0,c18,[],[et 1]⟩=1:=by kernel_rfl
 rw [el]
 show down (hit ⟨1,0,0,0,c18,[],[et 1]⟩ ⟨1,0,0,0,0,0,0⟩) 0 0 (1+1)=1
 have e:haveB ⟨1,0,0,0,0,0,0⟩ 1 7=bor 0 (shl 1 0):=by kernel_rfl
 have hh:hit ⟨1,0,0,0,c18,[],[et 1]⟩ ⟨1,0,0,0,0,0,0⟩ 1=true:=by
  unfold hit
  rw [show fits ⟨1,0,0,0,c18,[],[et 1]⟩ 1 1=true from by kernel_rfl,e,show (force ⟨1,0,0,0,c18,[],[et 1]⟩ (lastI ⟨1,0,0,0,c18,[],[et 1]⟩)).1=c18 from by kernel_rfl]
  unfold zak
  have e1:count (bor c18.full c18.wit)=1:=by simp only [count,cnt,bor,zhx];kernel_rfl
  have e2:count (band (bor c18.full c18.wit) (bor 0 (shl 1 0)))=1:=by simp only [count,cnt,bor,band,shl,zhx,zfs];kernel_rfl
  rw [e1,e2];rfl
 rw [down,if_pos (by decide),if_pos (by exact hh)];rfl
theorem kt18 (w q:Int) (hw:1 < w∧w≤100) (hq:0≤q∧q≤1000):Ctr Tryz.prog 12 [.ag (ak c18 0 0 0 w q).enc] (.tu [.ag (ak c18 0 0 0 (w - 1) (q+1)).enc,.sl 16 [],iv 0]) []:=by
 have k:=c_Tick (ak c18 0 0 0 w q) (zn5 k18 (by decide) (by decide) (by decide) (by decide) (by omega) (by omega)) (by show 0 < 4294967;decide) (by show (0:Int) ≠ 3;decide)
 obtain ⟨e1,e2⟩:=tick_w (w:=w) v18 0 0 hw.1 q
 rw [e1,e2,show farM (q+1)=q+1 from if_neg (by omega)] at k
 exact k
theorem Lx {L:Rft}{H:Hrd} (h1:L.role=3) (h2:L.commit=1) (h3:L.hard=H):L={ L with role:=3,commit:=1,hard:=H }:=by
 cases L;simp_all
theorem z0s:Ctr Tryz.prog 15 [] (bv true) []:=by
 have kb:=zt7 c18
 have hh:hardB (hc c18)=true:=(zd8 (zn5 k18 (id:=0) (ro:=0) (vo:=0) (w:=6) (q:=0) (by decide) (by decide) (by decide) (by decide) (by decide) (by decide))).hard
 have kn:=c_New 0 (by decide) (hc c18) (by show 0≤4294967;decide) hh
 rw [show newR 0 (hc c18)=ak c18 0 0 0 6 0 by show ak c18 0 0 0 (delay c18 0) 0=_;rw [d18]] at kn
 have k6:Ctr Tryz.prog 12 [.ag (ak c18 0 0 0 6 0).enc] (.tu [.ag (ak c18 0 0 0 5 1).enc,.sl 16 [],iv 0]) []:=kt18 6 0 (by decide) (by decide)
 have k5:Ctr Tryz.prog 12 [.ag (ak c18 0 0 0 5 1).enc] (.tu [.ag (ak c18 0 0 0 4 2).enc,.sl 16 [],iv 0]) []:=kt18 5 1 (by decide) (by decide)
 have k4:Ctr Tryz.prog 12 [.ag (ak c18 0 0 0 4 2).enc] (.tu [.ag (ak c18 0 0 0 3 3).enc,.sl 16 [],iv 0]) []:=kt18 4 2 (by decide) (by decide)
 have k3:Ctr Tryz.prog 12 [.ag (ak c18 0 0 0 3 3).enc] (.tu [.ag (ak c18 0 0 0 2 4).enc,.sl 16 [],iv 0]) []:=kt18 3 3 (by decide) (by decide)
 have k2:Ctr Tryz.prog 12 [.ag (ak c18 0 0 0 2 4).enc] (.tu [.ag (ak c18 0 0 0 1 5).enc,.sl 16 [],iv 0]) []:=kt18 2 4 (by decide) (by decide)
 have k1:=c_Tick (ak c18 0 0 0 1 5) (zn5 k18 (by decide) (by decide) (by decide) (by decide) (by omega) (by omega)) (by show 0 < 4294967;decide) (by show (0:Int) ≠ 3;decide)
 rw [t18,Lx (L:=leadR (stdR (taR (ak c18 0 0 0 1 5)))) (H:=⟨1,0,0,0,c18,[],[et 1]⟩) rfl (l18 5) rfl] at k1
 generalize leadR (stdR (taR (ak c18 0 0 0 1 5)))=L at k1
 generalize tickO (ak c18 0 0 0 1 5)=O at k1
 refine sBody Tryz.func15 ?_;conv=>whnf
 refine tC kb ?_
 refine tCD kn ?_
 refine tN0 ?_
 refine zby mixed (by kernel_rfl) 8 ?_
 refine tC k6 ?_
 refine tN0 ?_
 refine tC k5 ?_
 refine tN0 ?_
 refine tC k4 ?_
 refine tN0 ?_
 refine tC k3 ?_
 refine tN0 ?_
 refine tC k2 ?_
 refine tN0 ?_
 refine tC k1 ?_
 refine tN0 ?_
 exact zaa rfl rfl
theorem zyh {n:Nat} (hn:n < 7) (b:Int):bitB b n=tb b n:=by
 rw [← zja (by simp [zav];omega),zcz b n (by omega)]
theorem shl_fit {n:Nat} (hn:n < 7):0≤shl 1 n∧shl 1 n≤127:=by
 rw [zhp n (by omega)]
 rcases (by omega:n=0∨n=1∨n=2∨n=3∨n=4∨n=5∨n=6) with rfl | rfl | rfl | rfl | rfl | rfl | rfl<;>decide
noncomputable def zfg (r:Rft) (m:Mg):Bool:=inR 6 m.frm && (decide (¬ m.frm=r.id) && (decide (m.to=r.id) && (decide (1≤m.kind) && (decide (m.kind≤8) && ((inR far m.term && inR far m.logTerm) && (inR far m.index && inR far m.round))))))
theorem zrd (r:Rft) (m:Mg):Ctr Tryz.prog 51 [.ag r.enc,.ag m.enc] (bv (zfg r m)) []:=by
 have k1:=zca 6 m.frm
 have k2:=zjc far m.term m.logTerm
 have k3:=zjc far m.index m.round
 unfold zfg
 generalize inR 6 m.frm=b1 at *
 generalize (inR far m.term && inR far m.logTerm)=b2 at *
 generalize (inR far m.index && inR far m.round)=b3 at *
 cases b1 with
 | false =>
  refine sBody Tryz.func51 ?_;conv=>whnf
  refine tCR k1 ?_
  exact zaa rfl (by simp)
 | true =>
 refine sBody Tryz.func51 ?_;conv=>whnf
 refine tCR k1 ?_
 refine tS ?_ ?_<;>intro h
 ·have g1:=h
  clear h
  refine tS ?_ ?_<;>intro h
  ·have g2:=h
   clear h
   refine tS ?_ ?_<;>intro h
   ·have g3:=h
    clear h
    refine tS ?_ ?_<;>intro h
    ·have g4:=h
     clear h
     cases b2 with
     | false =>
      refine tCR k2 ?_
      exact zaa rfl (by simp [*])
     | true =>
     refine tCR k2 ?_
     cases b3 with
     | false =>
      refine tCR k3 ?_
      exact zaa rfl (by simp [*])
     | true =>
     refine tCR k3 ?_
     exact zaa rfl (by simp [*])
    ·exact zaa rfl (by simp [*])
   ·exact zaa rfl (by simp [*])
  ·exact zaa rfl (by simp [*])
 ·exact zaa rfl (by simp [*])
abbrev rzv:List PV:=[iv 0,iv 0,iv 0,iv 0,iv 0,iv 0,iv 0,iv 0,iv 0,.nl,.nl,iv 0,iv 0,iv 0,iv 0,iv 0,iv 0,iv 0,iv 0,iv 0,iv 0,iv 0,iv 0,iv 0,iv 0,iv 0,iv 0,iv 0,iv 0,iv 0,iv 0,iv 0,iv 0,iv 0,iv 0,iv 0,iv 0,iv 0,iv 0,.nl]
noncomputable def zcb (r:Rft):Int:=if r.role=3 then (if bitB (zab r).full r.id=true then 0 else 11) else 11
theorem zmj (c:Conf) (i:Int):kindR c i=kind c i:=by
 rw [zq5]
 cases h:zav i 0 6 with
 | false =>
  unfold kindR
  rw [h,if_neg (by decide)]
  simp only [zom h];rfl
 | true =>
  have hi:0≤i∧i≤6:=by simpa [zav] using h
  obtain ⟨n,rfl⟩:∃ n:Nat,i=n:=⟨i.toNat,by omega⟩
  have hn:n < 7:=by omega
  rw [zuw c hn]
  have e:∀ b,bitB b n=tb b n:=fun b=>by rw [← zja h,zcz b n (by omega)]
  simp only [e]
theorem zix (r:Rft) (hm:r.hard.log.length≤maxLen):Ctr Tryz.prog 138 [.ag r.enc] (iv (zcb r)) []:=by
 have kc:=zdp r hm
 have kk:=z0f (zab r) r.id
 unfold zcb
 refine sBody Tryz.func138 ?_;conv=>whnf
 refine tS ?_ ?_<;>intro h
 ·have h:¬ r.role=3:=h
  rw [if_neg h]
  exact zaa rfl rfl
 ·have h:r.role=3:=by first | exact h | exact Classical.byContradiction h
  rw [if_pos h]
  refine tC kc ?_
  refine tC kk ?_
  have hk:((kindR (zab r) r.id).toList == (ByteArray.mk #[102,117,108,108]).toList)=bitB (zab r).full r.id:=by rw [zmj];exact zls _ _
  refine tS ?_ ?_<;>intro h
  ·have h:((kindR (zab r) r.id).toList == (ByteArray.mk #[102,117,108,108]).toList)=false:=h
   rw [hk] at h
   rw [if_neg (by intro e;rw [e] at h;cases h)]
   exact zaa rfl rfl
  ·have h:((kindR (zab r) r.id).toList == (ByteArray.mk #[102,117,108,108]).toList)=true:=h
   rw [hk] at h
   rw [if_pos h]
   exact zaa rfl rfl
abbrev ec (r:Rft) (c:VCall):Ent:=⟨r.hard.term,1,c,cz⟩
noncomputable def propE (r:Rft) (c:VCall):Int:=if zcb r=0 then (if callR c=0 then (if r.hard.log.length < 64 then 0 else 5) else callR c) else 11
theorem zv3 (r:Rft) (c:VCall) (hf:Fit r) (hr:zbu r=true) (he:¬ propE r c=0):Ctr Tryz.prog 59 [.ag r.enc,.ag c.enc] (.tu [.ag rzv,iv 0,iv (propE r c)]) []:=by
 have hl0:=hf.log
 have ko:=c_of r hf.snap (by omega) (by have:=hf.reads;omega) hr
 have kl:=zix r (zad (by omega))
 have ks:=zg8 c
 unfold propE at he ⊢
 by_cases h1:zcb r=0
 ·rw [if_pos h1] at he ⊢
  rw [h1] at kl
  by_cases h2:callR c=0
  ·rw [if_pos h2] at he ⊢
   rw [h2] at ks
   by_cases h3:r.hard.log.length < 64
   ·rw [if_pos h3] at he;exact absurd rfl he
   ·rw [if_neg h3]
    refine sBody Tryz.func59 ?_;conv=>whnf
    refine tE ([(28,500)],[],[(0,600),(1,601),(2,602),(3,603)]) ko ?_
    refine tC kl ?_
    refine tC ks ?_
    refine tS ?_ ?_<;>intro h
    ·exact zaa rfl rfl
    ·simp only [List.length_map] at h
     omega
  ·rw [if_neg h2]
   generalize callR c=e at *
   refine sBody Tryz.func59 ?_;conv=>whnf
   refine tE ([(28,500)],[],[(0,600),(1,601),(2,602),(3,603)]) ko ?_
   refine tC kl ?_
   refine tC ks ?_
   repeat' (first | (refine tS ?_ ?_<;>intro h) | fail)
   all_goals first | exact zaa rfl rfl | (exact absurd (by first | exact h | (simpa using h)) h2) | omega | trace_state
 ·rw [if_neg h1]
  have h1':zcb r=11:=by unfold zcb at h1 ⊢;split<;>(try split)<;>simp_all
  rw [h1'] at kl
  refine sBody Tryz.func59 ?_;conv=>whnf
  refine tE ([(28,500)],[],[(0,600),(1,601),(2,602),(3,603)]) ko ?_
  refine tC kl ?_
  exact zaa rfl rfl
structure Mx where
 kind:Int
 frm:Int
 to:Int
 term:Int
 index:Int
 logT:Int
 commit:Int
 round:Int
 yes:Bool
 es:PV
 cf:Conf
 sn:PV
abbrev Mx.enc (x:Mx):List PV:=msgV x.kind x.frm x.to x.term x.index x.logT x.commit x.round x.yes x.es x.cf x.sn
def Mx.mute (x:Mx):Prop:=x.kind ≠ 4∧x.kind ≠ 6
def Rows (P:Mx→Prop) (O:List (List PV)):Prop:=∃ L:List Mx,O=L.map Mx.enc∧(∀ x ∈ L,P x)∧L.length≤7
theorem zsc {α:Type}{P:Mx→Prop}{f:α→List PV} (l:List α) (hl:l.length≤7) (h:∀ a,∃ x:Mx,f a=x.enc∧P x):Rows P (l.map f):=by
 have key:∃ L:List Mx,l.map f=L.map Mx.enc∧(∀ x ∈ L,P x)∧L.length=l.length:=by
  clear hl
  induction l with
  | nil=>exact ⟨[],rfl,fun x h=>absurd h (List.not_mem_nil),rfl⟩
  | cons a l ih =>
   obtain ⟨x,e,hx⟩:=h a
   obtain ⟨L,eL,hL,hn⟩:=ih
   refine ⟨x :: L,by rw [List.map_cons,List.map_cons,e,eL],fun y hy=>?_,by rw [List.length_cons,List.length_cons,hn]⟩
   rcases List.mem_cons.1 hy with rfl | hy
   ·exact hx
   ·exact hL y hy
 obtain ⟨L,e,hL,hn⟩:=key
 exact ⟨L,e,hL,by omega⟩
theorem Rows.imp {P Q:Mx→Prop}{O:List (List PV)} (h:Rows P O) (i:∀ x,P x→Q x):Rows Q O:=by
 obtain ⟨L,e,hL,hn⟩:=h
 exact ⟨L,e,fun x hx=>i x (hL x hx),hn⟩
structure Tak (r:Rft) (m:Mg) (R:Rft) (x:Mx):Prop where
 vot:x.kind=4→x.yes=true→m.kind=3∧R.hard.vote=m.frm∧R.hard.term=m.term∧x.to=m.frm∧x.term=R.hard.term∧newer r.hard m.index m.logTerm=true∧R.role=0
 gro:x.kind=6→x.yes=true→x.index≤lastI R.hard∧R.lead=m.frm∧R.role=0∧R.quiet=0∧x.round=m.round ∧
  (m.kind=5→∀ k (h:k < m.entries.length),R.hard.base < m.index+1+k→∃ e,entAt R.hard (m.index+1+k)=some e∧e.term=(m.entries[k]'h).term)
theorem Mx.mute.tak {x:Mx} (h:x.mute) (r:Rft) (m:Mg) (R:Rft):Tak r m R x:=⟨fun e=>absurd e h.1,fun e=>absurd e h.2⟩
structure Got (r:Rft) (m:Mg) (R:Rft):Prop where
 log:R.hard.log.length≤4294000
 base:0≤R.hard.base∧R.hard.base≤1099511627776
 led:r.role=3→r.hard.vote=r.id→m.term≤r.hard.term→R.hard=r.hard∧R.role=3
theorem zks (r:Rft) (t l:Int):(fallR r t l).hard.base=r.hard.base:=by unfold fallR;split<;>rfl
theorem zgd (r:Rft) (t l:Int):(fallR r t l).role=0:=rfl
theorem fall_id (r:Rft) (t l:Int):(fallR r t l).id=r.id:=rfl
theorem zii (r:Rft) (m:Mg):(folR r m).hard=r.hard:=zet r m.frm
theorem app_got (x:Rft) (m:Mg) (hl:x.hard.log.length≤4293000):(appR x m).hard.base=x.hard.base∧(appR x m).hard.log.length≤x.hard.log.length+8:=by
 unfold appR
 split
 ·exact ⟨rfl,by omega⟩
 ·split
  ·rename_i he
   rw [zii]
   exact ⟨zpq he,zfu (by omega) he⟩
  ·exact ⟨rfl,by omega⟩
theorem zga (h:Hrd) (i t:Int) (c:Conf) (s:List Int):(instH h i t c s).log.length≤h.log.length:=by
 unfold instH
 show (if fits h i t=true then h.log.drop (i - h.base).toNat else []).length≤_
 split
 ·rw [List.length_drop];omega
 ·exact Nat.zero_le _
theorem lrn_got (x:Rft) (m:Mg):(zb8 x m).hard=x.hard∧(zb8 x m).role=x.role:=by
 unfold zb8;split<;>exact ⟨rfl,rfl⟩
theorem za9 {m:Mg}{k:Int} (h:m.kind=k):mkM m k=m:=by cases m;cases h;rfl
theorem zef {m:Mg}{k:Int}{y:Bool} (h:m.kind=k) (hy:m.yes=y):mkY m k y=m:=by cases m;cases h;cases hy;rfl
structure RightM (r:Rft) (m:Mg):Prop where
 frm:0≤m.frm∧m.frm < 7
 ne:m.frm ≠ r.id
 to:m.to=r.id
 kind:1≤m.kind∧m.kind≤8
 term:0≤m.term∧m.term≤1099511627776
 index:0≤m.index∧m.index≤1099511627776
theorem zq0 {r:Rft}{m:Mg} (h:zfg r m=true):RightM r m:=by
 unfold zfg at h
 simp only [Bool.and_eq_true,decide_eq_true_eq] at h
 obtain ⟨h1,h2,h3,h4,h5,⟨h6,_⟩,h7,_⟩:=h
 have h1:=zda h1
 exact ⟨by omega,h2,h3,⟨h4,h5⟩,zda h6,zda h7⟩
theorem zgt (r:Rft) (t l:Int):lastI (fallR r t l).hard=lastI r.hard:=by
 unfold lastI
 rw [zce,zks]
structure Taken (r:Rft) (m:Mg) (R:Rft) (O:List (List PV)) (E:Int):Prop where
 run:CtrE Tryz.prog 52 [.pt 9990 0,.ag m.enc] [(9990,repI r [])] (obI r []) (iv E) [(9990,repX R ([]++O))] obX
 got:E=0→Got r m R
 tak:E=0→Rows (Tak r m R) O
inductive Outc (r:Rft) (m:Mg):Prop
 | bad (E:Int) (hE:¬ E=0) (k:Ctr Tryz.prog 14 [.ag r.enc,.ag m.enc] (.tu [.ag rzv,.nl,iv E]) [])
 | ok (R:Rft) (L:List Mx) (k:Ctr Tryz.prog 14 [.ag r.enc,.ag m.enc] (.tu [.ag R.enc,.sl 16 (L.map Mx.enc),iv 0]) []) (g:Got r m R) (t:∀ x ∈ L,Tak r m R x) (n:L.length≤7) (w:RightM r m) (hr:zbu r=true)
theorem zyv (c:Conf):Ctr Tryz.prog 154 [.ag c.enc] (iv (bor (bor (bor c.full c.wit) c.learn) c.lwit)) []:=by
 refine sBody Tryz.func154 ?_;conv=>whnf
 exact zaa rfl rfl
theorem zyi (a:Hrd) (hm:a.log.length≤maxLen) (hb:0≤a.base) (hs:a.base+a.log.length < 9223372036854775808) (i:Int) (hi:isI i):Ctr Tryz.prog 20 [.ag a.enc,iv i] (bv (fits a i a.term)) []:=by
 have kt:=zl6 a hm hb hs i hi
 refine sBody Tryz.func20 ?_;conv=>whnf
 refine tS ?_ ?_<;>intro h
 ·refine tC kt ?_
  exact zaa rfl (by simp [fits,h])
 ·exact zaa rfl (by simp [fits,h])
theorem c_rMay (a:Hrd) (hm:a.log.length≤maxLen) (hb:0≤a.base) (hs:a.base+a.log.length < 9223372036854775808) (i:Int) (hi:isI i):Ctr Tryz.prog 168 [.ag a.enc,iv i] (bv (fits a i a.term && decide ((force a (lastI a)).2≤i))) []:=by
 have kl:=zbr a hm
 have kf:=zk2 a hm (lastI a)
 have ko:=zyi a hm hb hs i hi
 refine sBody Tryz.func168 ?_;conv=>whnf
 refine tC kl ?_
 refine tC kf ?_
 refine tC ko ?_
 refine tS ?_ ?_<;>intro h
 ·exact zaa rfl (by simp [h])
 ·exact zaa rfl (by simp [h])
theorem zg2 (r:Rft) (hm:r.hard.log.length≤maxLen):Ctr Tryz.prog 166 [.ag r.enc] (bv (decide (zcb r=0))) []:=by
 have kc:=zb6 r hm
 have kk:=zn4 (zab r) r.id
 unfold zcb
 refine sBody Tryz.func166 ?_;conv=>whnf
 refine tS ?_ ?_<;>intro h
 ·have h:r.role=3:=h
  rw [if_pos h]
  refine tC kc ?_
  refine tC kk ?_
  refine zaa rfl ?_
  rw [zls]
  cases hq:bitB (zab r).full r.id<;>rfl
 ·have h:¬ r.role=3:=h
  rw [if_neg h]
  exact zaa rfl rfl
theorem zn0 {x:Int}{k:Nat} (hk:k < 62) (hx:0≤x∧x < ((2 ^ k:Nat):Int)):bor x (shl 1 k)=x+((2 ^ k:Nat):Int):=by
 obtain ⟨n,rfl⟩:∃ n:Nat,x=n:=⟨x.toNat,by omega⟩
 have hn:n < 2 ^ k:=by omega
 have h2:2 ^ k≤2 ^ 61:=Nat.pow_le_pow_right (by decide) (by omega)
 have h3:(2:Nat) ^ 61=2305843009213693952:=by decide
 have e0:2 ^ k+n=2 ^ k ||| n:=by have:=Nat.two_pow_add_eq_or_of_lt hn 1;rwa [Nat.mul_one] at this
 have e:(n:Int)+((2 ^ k:Nat):Int)=((2 ^ k+n:Nat):Int):=by omega
 rw [e]
 refine ext64 (zz9 _ _) (by unfold isI;omega) fun i hi=>?_
 rw [tb_or,ze1 k i (by omega),zjl n i (by omega),zjl (2 ^ k+n) i (by omega),e0,Nat.testBit_or,Nat.testBit_two_pow]
 exact Bool.or_comm _ _
theorem zup (m:Arr) (n:Int):∀ k:Nat,k≤7→0≤haveB m n k∧haveB m n k < ((2 ^ k:Nat):Int)
 | 0,_=>by show (0:Int)≤0∧(0:Int) < ((2 ^ 0:Nat):Int);decide
 | k+1,h=>by
  have ih:=zup m n k (by omega)
  have e2:((2 ^ (k+1):Nat):Int)=2 * ((2 ^ k:Nat):Int):=by rw [Nat.pow_succ];omega
  unfold haveB
  split
  ·rw [zn0 (by omega) ih];omega
  ·omega
theorem zfk (m:Arr) (n:Int) {k:Nat} (hk:k < 7) (h:n≤m.at k):IntKind.i64.wrap (haveB m n k+shl 1 k)=haveB m n (k+1):=by
 have ih:=zup m n k (by omega)
 have h2:2 ^ k≤2 ^ 6:=Nat.pow_le_pow_right (by decide) (by omega)
 have h3:(2:Nat) ^ 6=64:=by decide
 rw [show haveB m n (k+1)=bor (haveB m n k) (shl 1 k) from if_pos h,zn0 (by omega) ih,zhp k (by omega)]
 exact zaf (by omega) (by omega)
theorem zio (a:Hrd) (hm:a.log.length≤maxLen) (hb:0≤a.base) (hs:a.base+a.log.length < 9223372036854775808) (commit:Int) (m:Arr):Ctr Tryz.prog 161 [.ag a.enc,iv commit,.ag m.enc] (iv (zc9 a commit m)) []:=by
 have hbI:isI a.base:=by unfold isI;omega
 have kl:=zbr a hm
 have kf:=zk2 a hm (lastI a)
 refine sBody Tryz.func161 ?_;conv=>whnf
 refine tC kl ?_
 refine tC kf ?_
 refine zbe mixed (by kernel_rfl) (fun f:Nat=>f≤a.log.length+1∧down (hit a m) a.base commit f=zc9 a commit m) (fun f=>[(11,iv (a.base+f - 1))]) [] (fun f=>f) (a.log.length+1) ⟨Nat.le_refl _,rfl⟩ ?_ ?_
 ·(refine tWK ?_;and_intros<;>try exact ⟨⟩)
  rw [zua hb hs];omega
 rintro f ⟨hf,hd⟩
 generalize hn:a.base+(f:Int) - 1=n
 refine tS ?_ ?_<;>intro h
 case refine_2 =>
  refine zaa rfl ?_
  rw [← hd]
  cases f with
  | zero=>rfl
  | succ k=>rw [down,if_neg (by omega)]
 have h1:=h
 refine tS ?_ ?_<;>intro h
 case refine_2 =>
  refine zaa rfl ?_
  rw [← hd]
  cases f with
  | zero=>rfl
  | succ k=>omega
 obtain ⟨k,rfl⟩:∃ k,f=k+1:=⟨f - 1,by omega⟩
 have hnk:n=a.base+k:=by omega
 refine zbe mixed (by kernel_rfl) (fun k:Nat=>k≤7) (fun k=>[(13,iv k),(12,iv (haveB m n k))]) [] (fun k=>7 - k) 0 (by decide) ?_ ?_
 ·exact wkE
 ·intro k hk
  rcases (by omega:k=0∨k=1∨k=2∨k=3∨k=4∨k=5∨k=6∨k=7) with rfl | rfl | rfl | rfl | rfl | rfl | rfl | rfl
  ·have ha:=zfk m n (k:=0) (by decide)
   conv=>whnf
   refine tK2 ?_
   refine tS ?_ ?_<;>intro h
   ·refine tK2 ?_
    refine ⟨1,⟨by omega,by omega⟩,?_⟩
    conv=>whnf
    have e:=ha h
    (refine tWK ?_;and_intros<;>try exact ⟨⟩)
    all_goals first | exact e | rfl | trace_state
   ·refine ⟨1,⟨by omega,by omega⟩,?_⟩
    conv=>whnf
    have e:haveB m n 1=haveB m n 0:=if_neg h
    (refine tWK ?_;and_intros<;>try exact ⟨⟩)
    all_goals first | exact e.symm | rfl | trace_state
  ·have ha:=zfk m n (k:=1) (by decide)
   conv=>whnf
   refine tK2 ?_
   refine tS ?_ ?_<;>intro h
   ·refine tK2 ?_
    refine ⟨2,⟨by omega,by omega⟩,?_⟩
    conv=>whnf
    have e:=ha h
    (refine tWK ?_;and_intros<;>try exact ⟨⟩)
    all_goals first | exact e | rfl | trace_state
   ·refine ⟨2,⟨by omega,by omega⟩,?_⟩
    conv=>whnf
    have e:haveB m n 2=haveB m n 1:=if_neg h
    (refine tWK ?_;and_intros<;>try exact ⟨⟩)
    all_goals first | exact e.symm | rfl | trace_state
  ·have ha:=zfk m n (k:=2) (by decide)
   conv=>whnf
   refine tK2 ?_
   refine tS ?_ ?_<;>intro h
   ·refine tK2 ?_
    refine ⟨3,⟨by omega,by omega⟩,?_⟩
    conv=>whnf
    have e:=ha h
    (refine tWK ?_;and_intros<;>try exact ⟨⟩)
    all_goals first | exact e | rfl | trace_state
   ·refine ⟨3,⟨by omega,by omega⟩,?_⟩
    conv=>whnf
    have e:haveB m n 3=haveB m n 2:=if_neg h
    (refine tWK ?_;and_intros<;>try exact ⟨⟩)
    all_goals first | exact e.symm | rfl | trace_state
  ·have ha:=zfk m n (k:=3) (by decide)
   conv=>whnf
   refine tK2 ?_
   refine tS ?_ ?_<;>intro h
   ·refine tK2 ?_
    refine ⟨4,⟨by omega,by omega⟩,?_⟩
    conv=>whnf
    have e:=ha h
    (refine tWK ?_;and_intros<;>try exact ⟨⟩)
    all_goals first | exact e | rfl | trace_state
   ·refine ⟨4,⟨by omega,by omega⟩,?_⟩
    conv=>whnf
    have e:haveB m n 4=haveB m n 3:=if_neg h
    (refine tWK ?_;and_intros<;>try exact ⟨⟩)
    all_goals first | exact e.symm | rfl | trace_state
  ·have ha:=zfk m n (k:=4) (by decide)
   conv=>whnf
   refine tK2 ?_
   refine tS ?_ ?_<;>intro h
   ·refine tK2 ?_
    refine ⟨5,⟨by omega,by omega⟩,?_⟩
    conv=>whnf
    have e:=ha h
    (refine tWK ?_;and_intros<;>try exact ⟨⟩)
    all_goals first | exact e | rfl | trace_state
   ·refine ⟨5,⟨by omega,by omega⟩,?_⟩
    conv=>whnf
    have e:haveB m n 5=haveB m n 4:=if_neg h
    (refine tWK ?_;and_intros<;>try exact ⟨⟩)
    all_goals first | exact e.symm | rfl | trace_state
  ·have ha:=zfk m n (k:=5) (by decide)
   conv=>whnf
   refine tK2 ?_
   refine tS ?_ ?_<;>intro h
   ·refine tK2 ?_
    refine ⟨6,⟨by omega,by omega⟩,?_⟩
    conv=>whnf
    have e:=ha h
    (refine tWK ?_;and_intros<;>try exact ⟨⟩)
    all_goals first | exact e | rfl | trace_state
   ·refine ⟨6,⟨by omega,by omega⟩,?_⟩
    conv=>whnf
    have e:haveB m n 6=haveB m n 5:=if_neg h
    (refine tWK ?_;and_intros<;>try exact ⟨⟩)
    all_goals first | exact e.symm | rfl | trace_state
  ·have ha:=zfk m n (k:=6) (by decide)
   conv=>whnf
   refine tK2 ?_
   refine tS ?_ ?_<;>intro h
   ·refine tK2 ?_
    refine ⟨7,⟨by omega,by omega⟩,?_⟩
    conv=>whnf
    have e:=ha h
    (refine tWK ?_;and_intros<;>try exact ⟨⟩)
    all_goals first | exact e | rfl | trace_state
   ·refine ⟨7,⟨by omega,by omega⟩,?_⟩
    conv=>whnf
    have e:haveB m n 7=haveB m n 6:=if_neg h
    (refine tWK ?_;and_intros<;>try exact ⟨⟩)
    all_goals first | exact e.symm | rfl | trace_state
  ·have hnI:isI n:=by unfold isI;omega
   have kft:=zrm a hm hb hs n hnI a.term
   have kq:=zh7 (force a (lastI a)).1 (haveB m n 7)
   refine tC kft ?_
   refine tS ?_ ?_<;>intro h
   ·have h2:=h
    refine tC kq ?_
    refine tS ?_ ?_<;>intro h
    ·refine zaa rfl ?_
     rw [← hd,down,if_pos (by omega),if_pos (by rw [← hnk];simp [hit,h2,h]),hnk]
    ·refine ⟨k,⟨⟨by omega,?_⟩,by omega⟩,?_⟩
     ·rw [← hd,down,if_pos (by omega),if_neg (by rw [← hnk];simp [hit,h2,h])]
     ·(refine tWK ?_;and_intros<;>try exact ⟨⟩)
      rw [zaf (by omega) (by omega)];omega
   ·refine ⟨k,⟨⟨by omega,?_⟩,by omega⟩,?_⟩
    ·rw [← hd,down,if_pos (by omega),if_neg (by rw [← hnk];simp [hit,h])]
    ·(refine tWK ?_;and_intros<;>try exact ⟨⟩)
     rw [zaf (by omega) (by omega)];omega
end Go.Proofs
