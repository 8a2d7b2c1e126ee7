/-
  Part 1 of what the claim stands on: walks through the code, plain laws.
-/
import Derived.Test.YtpfijldkkfiooaaGreatDoorRows
import Derived.KernelRfl
import Derived.JoinedOf
import Derived.ChangeAt
import Derived.OpenShut
import Derived.MakeChecks
import Derived.LaidMore
import Derived.Stop.Joined
import Derived.SevenTiedAt
set_option linter.unusedVariables false
set_option linter.unusedSimpArgs false
namespace Go.Proofs.YtpfijldkkfiooaaGreatDoor.topProgress
open Go Go.ChangeShapes Go.ChangeAt
set_option maxRecDepth 100000
theorem Bp {a b:Bool} (h:a=true) (k:b=true):(a && b)=true:=by rw[h,k];rfl
theorem j0:(Rows.topProgressRow.wf (OpenSpec.ofChange Rows.topProgressSpec))=true:=by kernel_rfl
theorem j1:(laidOutB Tryz.prog)=true:=by kernel_rfl
theorem j2:(mapsRowed Tryz.prog)=true:=by kernel_rfl
theorem j3:(Tryz.f6.params.all (Tryz.prog.readableRec ·))=true:=by kernel_rfl
theorem j4:(namedTie Tryz.prog Rows.topProgressRow.named Rows.topProgressSpec.vars)=true:=by kernel_rfl
theorem j5:((Rows.topProgressRow.stops == []))=true:=by kernel_rfl
theorem j6:((Tryz.prog.stops == []))=true:=by kernel_rfl
theorem j7:((Rows.topProgressRow.knobs == []))=true:=by kernel_rfl
theorem j8:((Tryz.prog.stopKnobs == []))=true:=by kernel_rfl
theorem j9:((Rows.topProgressRow.inPlace == Tryz.prog.inPlace 6))=true:=by kernel_rfl
theorem j10:((Rows.topProgressRow.unfollowed == Tryz.prog.unfollowed 6))=true:=by kernel_rfl
theorem j11:((Rows.topProgressRow.recurses == Tryz.prog.recurses 6))=true:=by kernel_rfl
theorem j12:((Rows.topProgressRow.named == Tryz.prog.varsNamed 6))=true:=by kernel_rfl
theorem j13:((Rows.topProgressRow.maps == (Tryz.f6.params.toList++Rows.topProgressSpec.plain.varTypes Tryz.prog).any (Tryz.prog.mapsRec ·)))=true:=by kernel_rfl
theorem j14:((Rows.topProgressRow.ifaces == (Tryz.f6.params.toList++Rows.topProgressSpec.plain.varTypes Tryz.prog).any (Tryz.prog.ifacesRec ·)))=true:=by kernel_rfl
theorem j15:((Rows.topProgressRow.mapsOut == Tryz.prog.mapsAmong Tryz.f6.resultTypes.toList))=true:=by kernel_rfl
theorem j16:((Rows.topProgressRow.loops == (Tryz.f6.params.toList++Rows.topProgressSpec.plain.varTypes Tryz.prog).any (Tryz.prog.loopsFrom ·)))=true:=by kernel_rfl
theorem j17:((Rows.topProgressRow.wideKeys == (Tryz.f6.params.toList++Rows.topProgressSpec.plain.varTypes Tryz.prog++Tryz.f6.resultTypes.toList).any (Tryz.prog.wideKeysFrom ·)))=true:=by kernel_rfl
theorem j18:(Rows.topProgressSpec.vars.all (Tryz.prog.varReadable ·))=true:=by kernel_rfl
theorem j19:(Tryz.f6.resultTypes.all (fun t=>Tryz.prog.readableRec t && decide (t<Tryz.prog.types.size)))=true:=by kernel_rfl
theorem j20:((Rows.topProgressRow.ifacesOut == Tryz.f6.resultTypes.toList.any (Tryz.prog.ifacesRec ·)))=true:=by kernel_rfl
theorem j21:((Rows.topProgressRow.loopsOut == Tryz.f6.resultTypes.toList.any (Tryz.prog.loopsFrom ·)))=true:=by kernel_rfl
theorem j22:((Rows.topProgressRow.plainKeys == Tryz.prog.plainKeys))=true:=by kernel_rfl
theorem j23:(Rows.topProgressRow.shortTexts.isNone)=true:=by kernel_rfl
theorem j24:(Tryz.prog.stopsHeard)=true:=by kernel_rfl
theorem j25:(Tryz.prog.mayEnter)=true:=by kernel_rfl
theorem j26:((Rows.topProgressRow.lifted == Tryz.prog.liftsFinal))=true:=by kernel_rfl
theorem j27:((Tryz.prog.make == some Rows.topProgressRow.make))=true:=by kernel_rfl
theorem j28:((Rows.topProgressRow.kinds == (if Rows.topProgressRow.domain.isEmpty then[] else Tryz.f6.params.toList.map fun t=>match Tryz.prog.underlying t with|some (.int k)=>some k|_=>none)))=true:=by kernel_rfl
theorem j29:((Rows.topProgressRow.pinned == Rows.topProgressRow.pinnedBy))=true:=by kernel_rfl
theorem j30:((Rows.topProgressRow.veiled == (Tryz.f6.params.toList++Rows.topProgressSpec.plain.varTypes Tryz.prog++Tryz.f6.resultTypes.toList).any (Tryz.prog.veiledRec ·)))=true:=by kernel_rfl
theorem j31:(Rows.topProgressRow.veiledFits Tryz.prog Tryz.f6.params.toList (Tryz.f6.params.toList++Rows.topProgressSpec.plain.varTypes Tryz.prog++Tryz.f6.resultTypes.toList))=true:=by kernel_rfl
theorem XC:joinedFacts Tryz.prog 6 Tryz.f6 Rows.topProgressSpec Rows.topProgressRow=true:=by unfold joinedFacts;exact(Bp (Bp (Bp (Bp (Bp (Bp (Bp (Bp (Bp (Bp (Bp (Bp (Bp (Bp (Bp (Bp (Bp (Bp (Bp (Bp (Bp (Bp (Bp (Bp (Bp (Bp (Bp (Bp (Bp (Bp (Bp j0 j1) j2) j3) j4) j5) j6) j7) j8) j9) j10) j11) j12) j13) j14) j15) j16) j17) j18) j19) j20) j21) j22) j23) j24) j25) j26) j27) j28) j29) j30) j31)
theorem S8:Tryz.prog.funcNamed Rows.topProgressRow.func=some 6:=by kernel_rfl
theorem aS:Tryz.f6.isInstance Tryz.prog Rows.topProgressRow.origin Rows.topProgressRow.targs:=of_decide_eq_true (by kernel_rfl)
theorem cP:Tryz.f6.isWrapper Tryz.prog Rows.topProgressRow.wrapper Rows.topProgressRow.mainSum:=by
 unfold Func.isWrapper
 first|(rw[if_pos (by decide+kernel)];kernel_rfl)|(rw[if_neg (by decide+kernel)];exact⟨rfl,rfl⟩)
theorem WX:Rows.topProgressRow.wfByText (OpenSpec.ofChange Rows.topProgressSpec)=true:=by kernel_rfl
theorem bI : Tryz.prog.mainIs = some (true, "c003083851c4145e9b485e1c10402ef697cc3a8e20588172964b099e0e01a0ae".toList) := by kernel_rfl
theorem XK:true=Tryz.prog.looks []:=by kernel_rfl
theorem aN:false=Rows.topProgressRow.goesBy Tryz.prog:=by kernel_rfl
theorem VW:Tryz.prog.wantsStandIn 23=false:=by kernel_rfl
theorem VX:Tryz.prog.wantsStandIn 86=false:=by kernel_rfl
theorem kB:ownKnob Tryz.prog.godebug=none:=by kernel_rfl
theorem PH:laidOutB Tryz.prog=true:=j1
theorem Sj (os:Os) (args:Array Value):laidMetH Tryz.prog Rows.topProgressRow.laid ((World.doorLaid Tryz.prog 400 os).forCall (fun _ _=>0) ⟨#[],args,[]⟩).memory:=
 laidMetH_of_parts3 (fuel:=8) (laidMet_of_run' 8 (by kernel_rfl) (by kernel_rfl)) (by kernel_rfl) (by kernel_rfl)
end Go.Proofs.YtpfijldkkfiooaaGreatDoor.topProgress
