import Derived.Test.YtbhfokahocgndabGreatR6
import Derived.Test.YtbhfokahocgndabGreatU9
import Derived.Test.YtbhfokahocgndabGreatU10
import Derived.Test.YtbhfokahocgndabGreatU12
import Derived.Test.YtbhfokahocgndabGreatU13
import Derived.Test.YtbhfokahocgndabGreatU14
import Derived.Test.YtbhfokahocgndabGreatU16
import Derived.Test.YtbhfokahocgndabGreatU17
/- An act of a play: there is a step that it is. -/
set_option linter.unusedSimpArgs false
set_option linter.unusedVariables false
namespace Go.Proofs
open Go.Pv
set_option maxRecDepth 100000
theorem zyg (r:Rft) (hf:Fit r):Ctr Tryz.prog 33 [.ag r.enc] (.tu [.ag (tkR r).enc,.sl 16 (tkO r)]) []:=by
 unfold tkR tkO
 by_cases h:r.role=3
 ·rw [if_pos h,if_pos h];exact zyi r hf h
 ·rw [if_neg h,if_neg h];exact c_zTick r hf h
theorem zo2 {r:Rft}{m:Mg} (h:zeg r m=true):(0≤m.logTerm∧m.logTerm≤far)∧(0≤m.round∧m.round≤far):=by
 unfold zeg at h
 simp only [Bool.and_eq_true,decide_eq_true_eq] at h
 obtain ⟨_,_,_,_,_,⟨_,h7⟩,_,h8⟩:=h
 exact ⟨zc6 h7,zc6 h8⟩
theorem act_ex (r:Rft) (a:Act) (c:Conf) {kd:Int} (hk:12≤kd∧kd≤16):∃ R,ActE r a c kd R:=by
 rcases (by omega:kd=12∨kd=13∨kd=14∨kd=15∨kd=16) with rfl | rfl | rfl | rfl | rfl
 ·by_cases h:propE r a.call=0
  ·exact ⟨_,.inl (.prop h)⟩
  ·exact ⟨_,.inr ⟨.prop h,rfl⟩⟩
 ·by_cases h:chgE r c=0
  ·exact ⟨_,.inl (.chg h)⟩
  ·exact ⟨_,.inr ⟨.chg h,rfl⟩⟩
 ·by_cases h:askE r a.call=0
  ·exact ⟨_,.inl (.ask h)⟩
  ·exact ⟨_,.inr ⟨.ask h,rfl⟩⟩
 ·exact ⟨_,.inl .ready⟩
 ·by_cases h:compE r.hard r.commit (byteL a.n)=0
  ·exact ⟨_,.inl (.comp h)⟩
  ·exact ⟨_,.inr ⟨.comp h,rfl⟩⟩
theorem do_ex {n:Nat}{s:Svn}{ms:List My} (h:Ply n s ms) (hn:n≤199) (a:Act):∃ s' ms',Step n s ms a s' ms'∧DoC s ms a s' ms':=by
 obtain ⟨k,hk,hki0⟩:=zht a.i (m:=7) (by decide) (by decide)
 have hki:IntKind.i64.wrap ((IntKind.u64.wrap a.i).tmod 7)=(k:Int):=by
  rw [← hki0,zb4 (n:=((7:Nat):Int)) (by omega) (by omega)];rfl
 have g0:=zeq a.doo
 have b1:=Int.emod_nonneg (IntKind.u64.wrap a.doo) (show (18:Int) ≠ 0 by decide)
 have b2:=Int.emod_lt_of_pos (IntKind.u64.wrap a.doo) (show (0:Int) < 18 by decide)
 rw [← Int.tmod_eq_emod_of_nonneg g0] at b1 b2
 generalize hd:(IntKind.u64.wrap a.doo).tmod 18=kd at *
 have hr:=h.rp k hk
 have hlg:=hr.log
 have hf:=hr.rgt.fit (show (s.at k).hard.log.length < 4294967 by omega)
 have hsm:=hr.small (by omega)
 have hlen:=h.len
 have hM:(ms.map My.enc).length≤100:=by rw [List.length_map];exact hlen
 have hnone:ms=[]→4≤kd∧kd≤11→∃ s' ms',Step n s ms a s' ms'∧DoC s ms a s' ms':=fun e hkd=>by
  refine ⟨s,ms,.none,.same rfl ?_⟩
  exact zu2 s (ms.map My.enc) hM a k hk hki kd hd hsm (by rw [e];rfl) hkd
 rcases (by omega:kd < 4∨(4≤kd∧kd < 10)∨kd=10∨kd=11∨(12≤kd∧kd≤16)∨kd=17) with hc | hc | hc | hc | hc | hc
 ·have g:=zxg hr.id' hn
  obtain ⟨L,e2,hL,_⟩:=g.rows
  have kz:=zyg (s.at k) hf
  rw [e2] at kz
  refine ⟨_,_,.tick k hk L e2,.lost ?_⟩
  rw [← zln]
  exact zwt s (ms.map My.enc) hM a k hk hki kd hd hsm ⟨b1,hc⟩ (tkR (s.at k)) L kz
 ·by_cases e:ms=[]
  ·exact hnone e ⟨hc.1,by omega⟩
  ·obtain ⟨j,hj,hdr⟩:=zht a.n (m:=ms.length) (List.length_pos_iff.2 e) (by omega)
   have hy:=h.my _ (List.getElem_mem hj)
   obtain ⟨t,ht⟩:∃ t:Nat,(ms[j]'hj).to=t:=⟨(ms[j]'hj).to.toNat,by have:=hy.tor;omega⟩
   have ht7:t < 7:=by have:=hy.tor;omega
   have hrt:=h.rp t ht7
   have hlt:=hrt.log
   have hft:=hrt.rgt.fit (show (s.at t).hard.log.length < 4294967 by omega)
   have hst:=hrt.small (by omega)
   cases hm:zeg (s.at t) (ms[j]'hj).mg with
   | false =>
    have kz:=zpq (s.at t) (ms[j]'hj).mg hm
    exact ⟨_,_,.lose j,.kept (zjk s ms hlen a k hk hki kd hd hsm j hj hdr _ rfl hc t ht7 ht hst 1 (by decide) kz)⟩
   | true =>
    have hMg:=ziw hm
    obtain ⟨hL,hR⟩:=zo2 hm
    obtain ⟨R,O,E,hk2⟩:=tk_ex (s.at t) (ms[j]'hj).mg hMg.kind
    have hes:=hy.es
    have hsn:=hy.sn
    have kz:=zry (s.at t) (ms[j]'hj).mg hrt.rgt (by omega) hMg hL hR (by show (ms[j]'hj).bd.ents.length≤1000;omega) (by show (ms[j]'hj).bd.snp.length≤40000;omega) hk2
    by_cases hE:E=0
    ·subst hE
     rw [zb5] at kz
     have g:=zll hrt.id' hn hMg hsn hy.ix hk2 rfl
     obtain ⟨L,e2,_,_⟩:=g.rows
     rw [e2] at kz hk2
     refine ⟨_,_,.take j hj t ht7 ht hMg R L hk2,.kept ?_⟩
     rw [← zln]
     exact zw7 s ms hlen a k hk hki kd hd hsm j hj hdr _ rfl hc t ht7 ht hst R L kz
    ·rw [zeu _ _ hE] at kz
     exact ⟨_,_,.lose j,.kept (zjk s ms hlen a k hk hki kd hd hsm j hj hdr _ rfl hc t ht7 ht hst E hE kz)⟩
 ·by_cases e:ms=[]
  ·exact hnone e (by omega)
  ·obtain ⟨j,hj,hdr⟩:=zht a.n (m:=ms.length) (List.length_pos_iff.2 e) (by omega)
   exact ⟨_,_,.lose j,.kept (zu5 s ms hlen a k hk hki kd hd hsm j hj hdr _ rfl hc)⟩
 ·by_cases e:ms=[]
  ·exact hnone e (by omega)
  ·obtain ⟨j,hj,hdr⟩:=zht a.n (m:=ms.length) (List.length_pos_iff.2 e) (by omega)
   refine ⟨_,_,.double j hj,.lost ?_⟩
   rw [← zln]
   exact zox s ms hlen a k hk hki kd hd hsm j hj hdr _ rfl hc
 ·have hA:=za9 hr.rgt.hard
  have hla:=hr.last (by omega)
  have hbn:=hr.base
  have hcm:=hr.rgt.com
  have hb:=hA.1.b
  have hck:Cok (zac (s.at k)):=by
   refine (zeo _).1 ?_
   exact zmj hA.2.1 hA.2.2.2 _ _ (Nat.le_refl _)
  obtain ⟨c,kn⟩:=zzf (s.at k) a (zak (by omega)) hck
  obtain ⟨R,hE⟩:=act_ex (s.at k) a c hc
  have hI:isI (s.at k).commit∧isI (s.at k).hard.base:=⟨by unfold isI;omega,by unfold isI;omega⟩
  have hrd:(s.at k).reads.length≤4294967:=by have:=hf.reads;omega
  have ka:=c_ask18 s (ms.map My.enc) a (k:Int) ⟨by omega,by omega⟩ (s.at k) kd hd hc hf.log hsm (zf3 hr.rgt) hI hrd kn hE
  exact ⟨_,_,.act k hk c kd R hE hd,.same rfl (zxy s (ms.map My.enc) hM a k hk hki kd hd hsm hc R ka)⟩
 ·exact ⟨_,_,.crash k hk,.same rfl (zsp s (ms.map My.enc) hM a k hk hki kd hd hsm hc)⟩
structure Gd (r S:Rft) (ys:List My):Prop where
 up:Up r S
 rgt:Rgt S
 log:S.hard.log.length≤4000
 sent:∀ y ∈ ys,y.frm=r.id∧y.to ≠ r.id∧(y.kind ≠ 1→y.kind ≠ 2→y.term=S.hard.term)
theorem gd_of {n:Nat}{i:Int}{r S:Rft}{O:List (List PV)} (h:Rp n i r) (hn:n≤199) (g:Stp n r S O):∃ ys:List My,O=ys.map My.enc∧Gd r S ys∧ys.length≤8:=by
 obtain ⟨L,e,hL,hl⟩:=g.rows
 refine ⟨L,e,⟨g.up,g.rp.rgt,by have:=g.rp.log;omega,fun y hy=>?_⟩,hl⟩
 have hs:=hL y hy
 have hid:S.id=r.id:=g.up.id
 exact ⟨hs.frm.trans hid,fun e=>hs.to (e.trans hid.symm),hs.term⟩
theorem zpv {n:Nat}{i:Int}{r:Rft} (h:Rp n i r) (hn:n≤199) {y:My} (hy:MyOk n y):∃ (S:Rft) (ys:List My) (E:Int),Ctr Tryz.prog 14 [.ag r.enc,.ag ({ y with to:=r.id }:My).mg.enc] (takA S (ys.map My.enc) E) []∧(E=0→Gd r S ys∧ys.length≤8):=by
 have hlg:=h.log
 have hsn:=h.snap
 have hrd:=(zh0 h.rgt.reads).1
 generalize hm:({ y with to:=r.id }:My).mg=m
 have hen:m.entries.length≤8:=by rw [← hm];exact hy.es
 have hss:m.snap.length≤1:=by rw [← hm];exact hy.sn
 cases hr:zeg r m with
 | false =>
  have k:=zsu r m (by omega) (by omega) (by omega) (zf3 h.rgt) hr
  refine ⟨r,[],1,?_,fun e=>absurd e (by decide)⟩
  rw [zeu _ _ (by decide)]
  exact k
 | true =>
  have hM:=ziw hr
  obtain ⟨R,O,E,hk⟩:=tk_ex r m hM.kind
  have k:=c_TakeY r m h (by omega) hr hen hss hk
  by_cases hE:E=0
  ·have g:=zll h.id' hn hM hss (by rw [← hm];exact hy.ix) hk hE
   obtain ⟨ys,e,hg,hl⟩:=gd_of h hn g
   subst hE
   refine ⟨R,ys,0,?_,fun _=>⟨hg,hl⟩⟩
   rw [if_pos rfl,e] at k
   rw [zb5];exact k
  ·rw [if_neg hE] at k
   refine ⟨R,[],E,?_,fun e=>absurd e hE⟩
   rw [zeu _ _ hE];exact k
theorem beg_ply {c:Conf} (hc:confB c=true):Ply 0 (begS c 7) []:=by
 refine ⟨fun k hk=>?_,fun y hy=>absurd hy List.not_mem_nil,Nat.zero_le _⟩
 have hh:hardB (begH c)=true:=by
  unfold hardB
  rw [zec (show HardA (begH c) from ⟨by show (0:Int)≤0∧(0:Int)≤_;decide,by show (-1:Int)≤-1∧(-1:Int)≤6;decide,by show (0:Int)≤0∧(0:Int)≤_;decide,by show (0:Int)≤0∧(0:Int)≤0;decide,by show (0:Int)=0 ↔ (0:Int)=0;decide⟩),show confB (begH c).baseConf=true from hc]
  rfl
 have h0:=fun (i:Int) (hi:0≤i∧i < 7)=>new_rp (n:=0) (i:=i) hh hi (Nat.zero_le _) (by decide) (by show (0:Int)≤_;decide) (Nat.zero_le _)
 rcases (by omega:k=0∨k=1∨k=2∨k=3∨k=4∨k=5∨k=6) with rfl | rfl | rfl | rfl | rfl | rfl | rfl
 ·exact h0 0 (by decide)
 ·exact h0 1 (by decide)
 ·exact h0 2 (by decide)
 ·exact h0 3 (by decide)
 ·exact h0 4 (by decide)
 ·exact h0 5 (by decide)
 ·exact h0 6 (by decide)
end Go.Proofs
