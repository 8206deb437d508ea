import Derived.Test.YtbhfokahocgndabGreatC1
import Derived.Test.YtbhfokahocgndabGreatC59
/- Contracts of functions: grow.Feed. -/
set_option linter.unusedSimpArgs false
set_option linter.unusedVariables false
namespace Go.Proofs
open Go.Pv
set_option maxRecDepth 100000
abbrev feedS (g:Hrd):List PV:=[iv 7,iv 0,iv 0,iv 0,iv g.base,iv g.baseTerm,iv 0,iv 0,bv false,.nl,iv g.baseConf.full,iv g.baseConf.wit,iv g.baseConf.learn,iv g.baseConf.lwit,.sl 1 (g.snap.map encB),.nl]
abbrev feedA (g:Hrd) (next:Int):List PV:=[iv 5,iv 0,iv 0,iv 0,iv (feedP g next),iv (zbh g (feedP g next)),iv 0,iv 0,bv false,.sl 16 ((feedL g next).map Ent.enc),iv 0,iv 0,iv 0,iv 0,.nl,.nl]
theorem c_FeedS (g:Hrd) (h1:g.snap.length≤4294967296) (next:Int) (hn:next≤g.base):Ctr Tryz.prog 179 [.ag g.enc,iv next] (.ag (feedS g)) []:=by
 have h':(g.snap.map encB).length≤4294967296:=by simpa using h1
 refine sBody Tryz.func179 ?_;conv=>whnf
 (refine tSp (fun h=>?_) (fun h=>?_)<;>conv=>whnf)
 ·refine ⟨rfl,?_⟩
  conv=>whnf
  refine ⟨⟨⟨small h' (by kernel_rfl),zak h'⟩,rfl⟩,?_⟩
  conv=>whnf
  refine zat [(336,false,1,g.snap.map encB)] ?_ (zag ?_)
  ·intro q hq
   rw [List.mem_singleton.1 hq]
   rfl
  conv=>whnf
  repeat' (first | exact rfl | ((with_reducible refine And.intro ?_ ?_)<;>(first | (with_reducible exact zaj _ rfl) | exact zbw (b:=false) (List.Mem.head _) rfl | (conv=>whnf))))
 ·exfalso;omega
theorem c_FeedA (g:Hrd) (h1:g.snap.length≤4294967296) (h2:g.log.length≤4294967) (hb:isI g.base) (next:Int) (hn:g.base < next) (hnI:isI next) (h0:0≤g.base∧g.base≤1099511627776):Ctr Tryz.prog 179 [.ag g.enc,iv next] (.ag (feedA g next)) []:=by
 have hm:g.log.length≤maxLen:=zak (by omega)
 have hla:lastI g=g.base+g.log.length:=zbk h0.1 (by omega)
 have hp:feedP g next=min (next - 1) (lastI g):=zlo _ _
 unfold isI at hnI
 have ew:IntKind.i64.wrap (next - 1)=next - 1:=zal (by omega) (by omega)
 have ew2:IntKind.i64.wrap (feedP g next+1)=feedP g next+1:=zal (by omega) (by omega)
 have c1:=znp g hm hb (feedP g next) (by unfold isI;omega)
 have c2:=zyc g (by omega) hb (feedP g next+1) (by unfold isI;omega) 8
 refine sBody Tryz.func179 ?_;conv=>whnf
 (refine tSp (fun h=>?_) (fun h=>?_)<;>conv=>whnf)
 ·exfalso;omega
 ·((try (refine Exists.intro none ?_;conv=>whnf));(with_reducible refine zaa (zd4 g hm) ?_);conv=>whnf)
  rw [ew,show (if lastI g < next - 1 then lastI g else next - 1)=feedP g next from rfl]
  ((try (refine Exists.intro none ?_;conv=>whnf));(with_reducible refine zaa (c1) ?_);conv=>whnf)
  rw [ew2]
  ((try (refine Exists.intro none ?_;conv=>whnf));(with_reducible refine zaa (c2) ?_);conv=>whnf)
  (refine tNew0 ?_;conv=>whnf)
  exact zab rfl rfl
theorem zxm (g:Hrd) (h1:g.snap.length≤4294967296) (next:Int) (hn:next≤g.base):Ctr Tryz.prog 197 [.ag g.enc,iv next] (.ag (feedS g)) []:=by
 have t3:=(zqb g.snap h1).frz (zbw (b:=false) (List.Mem.head _) rfl)
 refine sBody Tryz.func197 ?_;conv=>whnf
 (refine tSp (fun h=>?_) (fun h=>?_)<;>conv=>whnf)
 ·((try (refine Exists.intro none ?_;conv=>whnf));(with_reducible refine zaa (t3) ?_);conv=>whnf)
  (refine tNew0 ?_;conv=>whnf)
  exact zab rfl rfl
 ·exfalso;omega
theorem zz3 (g:Hrd) (h2:g.log.length≤4294967) (hb:isI g.base) (next:Int) (hn:g.base < next) (hnI:isI next) (h0:0≤g.base∧g.base≤1099511627776):Ctr Tryz.prog 197 [.ag g.enc,iv next] (.ag (feedA g next)) []:=by
 have hm:g.log.length≤maxLen:=zak (by omega)
 have hla:lastI g=g.base+g.log.length:=zbk h0.1 (by omega)
 have hp:feedP g next=min (next - 1) (lastI g):=zlo _ _
 unfold isI at hnI
 have ew:IntKind.i64.wrap (next - 1)=next - 1:=zal (by omega) (by omega)
 have ew2:IntKind.i64.wrap (feedP g next+1)=feedP g next+1:=zal (by omega) (by omega)
 have c1:=zjs g hm h0.1 (by omega) (feedP g next) (by unfold isI;omega)
 have c2:=(c_rFrom g (by omega) h0 (feedP g next+1) (by unfold isI;omega) 8).frz (zbw (b:=false) (List.Mem.head _) rfl)
 refine sBody Tryz.func197 ?_;conv=>whnf
 (refine tSp (fun h=>?_) (fun h=>?_)<;>conv=>whnf)
 ·exfalso;omega
 ·((try (refine Exists.intro none ?_;conv=>whnf));(with_reducible refine zaa (zb0 g hm) ?_);conv=>whnf)
  rw [ew,show (if lastI g < next - 1 then lastI g else next - 1)=feedP g next from rfl]
  ((try (refine Exists.intro none ?_;conv=>whnf));(with_reducible refine zaa (c1) ?_);conv=>whnf)
  rw [ew2]
  ((try (refine Exists.intro none ?_;conv=>whnf));(with_reducible refine zaa (c2) ?_);conv=>whnf)
  (refine tNew0 ?_;conv=>whnf)
  exact zab rfl rfl
end Go.Proofs
