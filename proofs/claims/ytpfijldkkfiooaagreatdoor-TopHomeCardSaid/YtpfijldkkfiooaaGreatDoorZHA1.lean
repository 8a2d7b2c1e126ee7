/-
  Part 1 of what the claim stands on: walks through the code, plain laws.
-/
import Derived.Test.YtpfijldkkfiooaaGreatDoorRows
import Derived.KernelRfl
import Derived.JoinedOf
import Derived.ChangeAt
import Derived.OpenShut
import Derived.MakeChecks
import Derived.LaidMore
import Derived.Stop.Joined
import Derived.SevenTiedAt
set_option linter.unusedVariables false
set_option linter.unusedSimpArgs false
namespace Go.Proofs.YtpfijldkkfiooaaGreatDoor.topHome
open Go Go.ChangeShapes Go.ChangeAt
set_option maxRecDepth 100000
theorem and_i {a b:Bool} (h:a=true) (k:b=true):(a && b)=true:=by rw [h,k];rfl
theorem j0:(Rows.topHomeRow.wf (OpenSpec.ofChange Rows.topHomeSpec))=true:=by kernel_rfl
theorem j1:(laidOutB Tryz.prog)=true:=by kernel_rfl
theorem j2:(mapsRowed Tryz.prog)=true:=by kernel_rfl
theorem j3:(Tryz.f5.params.all (Tryz.prog.readableRec ·))=true:=by kernel_rfl
theorem j4:(namedTie Tryz.prog Rows.topHomeRow.named Rows.topHomeSpec.vars)=true:=by kernel_rfl
theorem j5:((Rows.topHomeRow.stops == []))=true:=by kernel_rfl
theorem j6:((Tryz.prog.stops == []))=true:=by kernel_rfl
theorem j7:((Rows.topHomeRow.knobs == []))=true:=by kernel_rfl
theorem j8:((Tryz.prog.stopKnobs == []))=true:=by kernel_rfl
theorem j9:((Rows.topHomeRow.inPlace == Tryz.prog.inPlace 5))=true:=by kernel_rfl
theorem j10:((Rows.topHomeRow.unfollowed == Tryz.prog.unfollowed 5))=true:=by kernel_rfl
theorem j11:((Rows.topHomeRow.recurses == Tryz.prog.recurses 5))=true:=by kernel_rfl
theorem j12:((Rows.topHomeRow.named == Tryz.prog.varsNamed 5))=true:=by kernel_rfl
theorem j13:((Rows.topHomeRow.maps == (Tryz.f5.params.toList++Rows.topHomeSpec.plain.varTypes Tryz.prog).any (Tryz.prog.mapsRec ·)))=true:=by kernel_rfl
theorem j14:((Rows.topHomeRow.ifaces == (Tryz.f5.params.toList++Rows.topHomeSpec.plain.varTypes Tryz.prog).any (Tryz.prog.ifacesRec ·)))=true:=by kernel_rfl
theorem j15:((Rows.topHomeRow.mapsOut == Tryz.prog.mapsAmong Tryz.f5.resultTypes.toList))=true:=by kernel_rfl
theorem j16:((Rows.topHomeRow.loops == (Tryz.f5.params.toList++Rows.topHomeSpec.plain.varTypes Tryz.prog).any (Tryz.prog.loopsFrom ·)))=true:=by kernel_rfl
theorem j17:((Rows.topHomeRow.wideKeys == (Tryz.f5.params.toList++Rows.topHomeSpec.plain.varTypes Tryz.prog++Tryz.f5.resultTypes.toList).any (Tryz.prog.wideKeysFrom ·)))=true:=by kernel_rfl
theorem j18:(Rows.topHomeSpec.vars.all (Tryz.prog.varReadable ·))=true:=by kernel_rfl
theorem j19:(Tryz.f5.resultTypes.all (fun t=>Tryz.prog.readableRec t && decide (t<Tryz.prog.types.size)))=true:=by kernel_rfl
theorem j20:((Rows.topHomeRow.ifacesOut == Tryz.f5.resultTypes.toList.any (Tryz.prog.ifacesRec ·)))=true:=by kernel_rfl
theorem j21:((Rows.topHomeRow.loopsOut == Tryz.f5.resultTypes.toList.any (Tryz.prog.loopsFrom ·)))=true:=by kernel_rfl
theorem j22:((Rows.topHomeRow.plainKeys == Tryz.prog.plainKeys))=true:=by kernel_rfl
theorem j23:(Rows.topHomeRow.shortTexts.isNone)=true:=by kernel_rfl
theorem j24:(Tryz.prog.stopsHeard)=true:=by kernel_rfl
theorem j25:(Tryz.prog.mayEnter)=true:=by kernel_rfl
theorem j26:((Rows.topHomeRow.lifted == Tryz.prog.liftsFinal))=true:=by kernel_rfl
theorem j27:((Tryz.prog.make == some Rows.topHomeRow.make))=true:=by kernel_rfl
theorem j28:((Rows.topHomeRow.kinds == (if Rows.topHomeRow.domain.isEmpty then [] else Tryz.f5.params.toList.map fun t=>match Tryz.prog.underlying t with | some (.int k)=>some k | _=>none)))=true:=by kernel_rfl
theorem j29:((Rows.topHomeRow.pinned == Rows.topHomeRow.pinnedBy))=true:=by kernel_rfl
theorem j30:((Rows.topHomeRow.veiled == (Tryz.f5.params.toList++Rows.topHomeSpec.plain.varTypes Tryz.prog++Tryz.f5.resultTypes.toList).any (Tryz.prog.veiledRec ·)))=true:=by kernel_rfl
theorem j31:(Rows.topHomeRow.veiledFits Tryz.prog Tryz.f5.params.toList (Tryz.f5.params.toList++Rows.topHomeSpec.plain.varTypes Tryz.prog++Tryz.f5.resultTypes.toList))=true:=by kernel_rfl
theorem joined:joinedFacts Tryz.prog 5 Tryz.f5 Rows.topHomeSpec Rows.topHomeRow=true:=by
 unfold joinedFacts
 exact (and_i (and_i (and_i (and_i (and_i (and_i (and_i (and_i (and_i (and_i (and_i (and_i (and_i (and_i (and_i (and_i (and_i (and_i (and_i (and_i (and_i (and_i (and_i (and_i (and_i (and_i (and_i (and_i (and_i (and_i (and_i j0 j1) j2) j3) j4) j5) j6) j7) j8) j9) j10) j11) j12) j13) j14) j15) j16) j17) j18) j19) j20) j21) j22) j23) j24) j25) j26) j27) j28) j29) j30) j31)
theorem named_:Tryz.prog.funcNamed Rows.topHomeRow.func=some 5:=by kernel_rfl
theorem inst_:Tryz.f5.isInstance Tryz.prog Rows.topHomeRow.origin Rows.topHomeRow.targs:=of_decide_eq_true (by kernel_rfl)
theorem wrap_:Tryz.f5.isWrapper Tryz.prog Rows.topHomeRow.wrapper Rows.topHomeRow.mainSum:=by
 unfold Func.isWrapper
 first | (rw [if_pos (by decide +kernel)];kernel_rfl) | (rw [if_neg (by decide +kernel)];exact ⟨rfl,rfl⟩)
theorem byText:Rows.topHomeRow.wfByText (OpenSpec.ofChange Rows.topHomeSpec)=true:=by kernel_rfl
theorem main_ : Tryz.prog.mainIs = some (true, "c003083851c4145e9b485e1c10402ef697cc3a8e20588172964b099e0e01a0ae".toList) := by kernel_rfl
theorem looks_:true=Tryz.prog.looks []:=by kernel_rfl
theorem goes_:false=Rows.topHomeRow.goesBy Tryz.prog:=by kernel_rfl
theorem stand3:Tryz.prog.wantsStandIn 3=false:=by kernel_rfl
theorem stand25:Tryz.prog.wantsStandIn 25=false:=by kernel_rfl
theorem stand26:Tryz.prog.wantsStandIn 26=false:=by kernel_rfl
theorem own_:ownKnob Tryz.prog.godebug=none:=by kernel_rfl
theorem laidOut:laidOutB Tryz.prog=true:=j1
theorem door_met (os:Os) (args:Array Value):laidMetH Tryz.prog Rows.topHomeRow.laid ((World.doorLaid Tryz.prog 400 os).forCall (fun _ _=>0) ⟨#[],args,[]⟩).memory:=
 laidMetH_of_parts3 (fuel:=8) (laidMet_of_run' 8 (by kernel_rfl) (by kernel_rfl)) (by kernel_rfl) (by kernel_rfl)
end Go.Proofs.YtpfijldkkfiooaaGreatDoor.topHome
