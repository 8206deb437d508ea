import Derived.JoinedOf
import Derived.KernelRfl
import Derived.Test.YtbhfokahocgndabGreatProg
/-
  What a law's end asks of the program's head. Generic over the program: the kernel has nothing to read here.
-/
set_option linter.unusedSimpArgs false
set_option linter.unusedVariables false
namespace Go.Pv
theorem zo3 (rest:List (List Char)):stripLifts liftWords ("cut".toList :: rest)=([], "cut".toList :: rest):=by kernel_rfl
theorem make_of {P:Program}{rest:List (List Char)} (h:behindMainWord (wordsSigns P.initOrder.toList) = "cut".toList :: rest):P.make=some .cut:=by
 unfold Program.make
 rw [h]
 kernel_rfl
theorem zqa {P:Program}{rest:List (List Char)} (h:behindMainWord (wordsSigns P.initOrder.toList) = "cut".toList :: rest):P.headLifts=[]:=by
 unfold Program.headLifts
 rw [h,zo3]
 kernel_rfl
theorem lifts_of {P:Program}{rest:List (List Char)} (h:behindMainWord (wordsSigns P.initOrder.toList) = "cut".toList :: rest):P.liftsFinal=false:=by
 have e:=zqa h
 simp only [Program.liftsFinal,h,e]
 rfl
theorem mayEnter_of {P:Program}{rest:List (List Char)} (h:behindMainWord (wordsSigns P.initOrder.toList) = "cut".toList :: rest) (h1:P.laysLater=false) (h2:P.bearsReflect=false) (h3:P.doorFits []=true):P.mayEnter=true:=by
 unfold Program.mayEnter
 rw [h]
 simp only [zo3,h1,h2,h3]
 rfl
theorem joined_of {P : Program} {f : FuncId} {fn : Func} {s : ChangeSpec} {c : OpenClaim} (hm : P.mayEnter = true) (hl : P.liftsFinal = false) (hk : P.make = some .cut) (ho : laidOutB P = true)
    (h1:c.wf (OpenSpec.ofChange s)=true) (h2:mapsRowed P=true) (h3:fn.params.all (P.readableRec ·)=true) (h4:namedTie P c.named s.vars=true)
    (h5:(c.stops == [])=true) (h6:(P.stops == [])=true) (h7:(c.knobs == [])=true) (h8:(P.stopKnobs == [])=true)
    (h9:(c.inPlace == P.inPlace f)=true) (h10:(c.unfollowed == P.unfollowed f)=true) (h11:(c.recurses == P.recurses f)=true) (h12:(c.named == P.varsNamed f)=true)
    (h13:((c.maps == (fn.params.toList++s.plain.varTypes P).any (P.mapsRec ·)) && (c.ifaces == (fn.params.toList++s.plain.varTypes P).any (P.ifacesRec ·)) && (c.mapsOut == P.mapsAmong fn.resultTypes.toList) &&
 (c.loops == (fn.params.toList++s.plain.varTypes P).any (P.loopsFrom ·)) && (c.wideKeys == (fn.params.toList++s.plain.varTypes P++fn.resultTypes.toList).any (P.wideKeysFrom ·)) &&
 s.vars.all (P.varReadable ·) && fn.resultTypes.all (fun t=>P.readableRec t && decide (t < P.types.size)) && (c.ifacesOut == fn.resultTypes.toList.any (P.ifacesRec ·)) && (c.loopsOut == fn.resultTypes.toList.any (P.loopsFrom ·)) && (c.plainKeys == P.plainKeys) && c.shortTexts.isNone && P.stopsHeard)=true)
  (h14:(c.lifted == false)=true) (h15:(some Make.cut == some c.make)=true)
  (h16:((c.kinds == (if c.domain.isEmpty then [] else fn.params.toList.map fun t=>match P.underlying t with | some (.int k)=>some k | _=>none)) && (c.pinned == c.pinnedBy) &&
 (c.veiled == (fn.params.toList++s.plain.varTypes P++fn.resultTypes.toList).any (P.veiledRec ·)) && c.veiledFits P fn.params.toList (fn.params.toList++s.plain.varTypes P++fn.resultTypes.toList))=true) :
  joinedFacts P f fn s c=true:=by
 simp only [Bool.and_eq_true] at h13 h16
 obtain ⟨⟨⟨⟨⟨⟨⟨⟨⟨⟨⟨a1,a2⟩,a3⟩,a4⟩,a5⟩,a6⟩,a7⟩,a8⟩,a9⟩,a10⟩,a11⟩,a12⟩:=h13
 obtain ⟨⟨⟨b1,b2⟩,b3⟩,b4⟩:=h16
 simp only [joinedFacts,hm,hl,hk,ho,h1,h2,h3,h4,h5,h6,h7,h8,h9,h10,h11,h12,h14,h15,a1,a2,a3,a4,a5,a6,a7,a8,a9,a10,a11,a12,b2,b3,b4,Bool.and_self,Bool.true_and,Bool.and_true]
 exact b1
end Go.Pv
namespace Go.Proofs
set_option maxRecDepth 100000
def zon:List Nat:=[104,97,114,110,101,115,115,32,52,55,50,53,48,50,50,50,57,50,50,50,99,49,99,50,51,51,101,101,50,49,56,98,56,57,101,51,52,49,51,54,97,52,55,48,51,49,101,99,52,48,100,98,53,48,56,101,52,54,56,48,102,54,98,100,51,48,101,99,102,48,54,101,32,99,117,116,32,97,116,32,115,107,101,114,114,121,47,115,107,101,114,114,121,108,97,119,49,56,46,82,97,102,116,84,101,114,109,115,32,115,107,101,114,114,121,47,115,107,101,114,114,121,108,97,119,49,56,46,82,97,102,116,83,97,102,101,32,115,107,101,114,114,121,47,115,107,101,114,114,121,108,97,119,49,56,46,82,97,102,116,65,112,97,114,116,32,115,107,101,114,114,121,47,115,107,101,114,114,121,108,97,119,50,54,46,65,117,100,105,116,72,111,108,100,115]
theorem z0b:Tryz.prog.initOrder.toList=zon.map Char.ofNat:=by
 have h:Tryz.prog.initOrder=String.ofList (zon.map Char.ofNat):=by kernel_rfl
 rw [h,String.toList_ofList]
theorem zrc:∃ rest,behindMainWord (wordsSigns Tryz.prog.initOrder.toList) = "cut".toList :: rest:=by
 refine ⟨(behindMainWord (wordsSigns (zon.map Char.ofNat))).tail,?_⟩
 rw [z0b]
 kernel_rfl
theorem j_stops:(Tryz.prog.stops == [])=true:=by kernel_rfl
theorem j_knobs:(Tryz.prog.stopKnobs == [])=true:=by kernel_rfl
theorem j_lays:Tryz.prog.laysLater=false:=by kernel_rfl
theorem j_refl:Tryz.prog.bearsReflect=false:=by kernel_rfl
theorem j_door:Tryz.prog.doorFits []=true:=by kernel_rfl
theorem j_mayEnter:Tryz.prog.mayEnter=true:=by
 obtain ⟨rest,h⟩:=zrc
 exact Go.Pv.mayEnter_of h j_lays j_refl j_door
theorem j_lifts:Tryz.prog.liftsFinal=false:=by
 obtain ⟨rest,h⟩:=zrc
 exact Go.Pv.lifts_of h
theorem j_make:Tryz.prog.make=some .cut:=by
 obtain ⟨rest,h⟩:=zrc
 exact Go.Pv.make_of h
end Go.Proofs
