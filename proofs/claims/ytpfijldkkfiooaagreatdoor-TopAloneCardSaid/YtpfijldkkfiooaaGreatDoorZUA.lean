/-
  TopAlone: for every input the Go function returns true, and the input reads as it did; no condition. From its walk to the given card.
-/
import Derived.Test.YtpfijldkkfiooaaGreatDoorCards
import Derived.Test.YtpfijldkkfiooaaGreatDoorTie
import Derived.LaidMore
import Derived.Stop.Joined
import Derived.SevenTiedAt
import Derived.Test.YtpfijldkkfiooaaGreatDoorZUA7
namespace Go.Proofs.YtpfijldkkfiooaaGreatDoor.topAlone
open Go Go.RowKit Go.ChangeShapes Go.WideShapes Go.ChangeAt
set_option maxRecDepth 100000 in
theorem lifted (os:Os) (started:os.Started) (H:Type) (enc:TypeId × Value→H) :
  ReturnsInHanded {} Tryz.checked os 4 .any (fun w args=>(Rows.topAloneSpec.pre enc Tryz.prog Tryz.f4 [] false w args∧laidMetH Tryz.prog Rows.topAloneRow.laid w)∧sizedMet enc Tryz.prog Tryz.f4 (OpenSpec.ofChange Rows.topAloneSpec) false w args)
   (Rows.topAloneSpec.post enc Tryz.prog Tryz.f4 false true false false):=by
 refine ret_shaped (C:=Tryz.checked) (X:=fun w _=>laidMetH Tryz.prog Rows.topAloneRow.laid w) (fun _ _ _ hh h=>h.of_heap hh) own_ started (by kernel_rfl) Tryz.func4
  (ChangeSpec.witness_shaped (enc:=enc) (C:=Tryz.checked) (os:=os) (X:=fun w _=>laidMetH Tryz.prog Rows.topAloneRow.laid w) false (World.doorLaid Tryz.prog 400 os) #[.agg #[.slice none 0 0,.slice none 0 0,.int .i64 0,.int .i64 0],.slice none 0 0] 8 rfl (World.shaped_of_RefB (by kernel_rfl) (by kernel_rfl)) (by kernel_rfl) (by kernel_rfl) (by kernel_rfl) (door_met os _)) ?_
 intro W base args ds gs before hsh hval0 hW _ hL
 have hval:∀ (j:Nat) t v,Tryz.f4.params[j]? = some t→args[j]? = some v→Value.okWide Tryz.prog W .any base t v:=hval0
 have hW':=hW
 obtain ⟨p,q,hA0,hV,rfl,hfz,hnd⟩:=hW
 have hA:DataW.TrodAll enc Tryz.prog W 0 (fun _=>true) true Tryz.f4.params.toList args.toList ds p:=hA0
 rw [Tryz.params4] at hA hval
 obtain ⟨v0,vs0,d0,ds0,p0,q0,hargs,rfl,rfl,h0,r0⟩:=trodAll_cons hA
 obtain ⟨v1,vs1,d1,ds1,p1,q1,rfl,rfl,rfl,h1,r1⟩:=trodAll_cons r0
 obtain ⟨rfl,rfl,rfl⟩:=trodAll_nil r1
 obtain rfl:args=#[v0,v1]:=by cases args;simp_all
 obtain ⟨rfl,rfl⟩:=trodVars_none hV
 have k0:=h0
 have lt0:∀ x∈p0,x.block<W.heap.size:=by obtain ⟨m,hm⟩:=k0;exact DataW.trod_lt m _ _ _ hm
 obtain ⟨x,rfl,xA,xi,xB,xb⟩:=open_wld (hval 0 25 v0 rfl rfl) h0
 have k1:=h1
 have lt1:∀ x∈p1,x.block<W.heap.size:=by obtain ⟨m,hm⟩:=k1;exact DataW.trod_lt m _ _ _ hm
 obtain ⟨C,capc,ls,rfl,hC,hcl⟩:=open_chos (hval 1 26 v1 rfl rfl) h1
 clear hA0 hval0
 have hb0:=sp_block hsh (sp_laid hL)
 refine ((c4 (hpP W) (hpQ W) (arg_W hb0) x (wld_in xA xi xB xb) (fun t ht hz=>words_q hb0 (wsize hsh) ((xi t ht).v hz)) C capc ls (chos_q hb0 (wsize hsh) hC) (view_W hC) hcl hC.1).run W [] W (fun e W'=>e = .returned (.bool true)∧Below W.heap.size W W') (hp_W W) fun w' hw=>⟨rfl,below_W hw⟩).mono fun e W' ⟨he,bel⟩=>?_
 subst he
 exact ⟨_,rfl,_,_,_,[],_,[],hW',trodAll_mk1 (shut_bool Tryz.underlying4 _),(trodAll_cons_mk (Below.trod laidOut (by kernel_rfl) (of_decide_eq_true (by kernel_rfl)) k0 bel lt0) (trodAll_cons_mk (Below.trod laidOut (by kernel_rfl) (of_decide_eq_true (by kernel_rfl)) k1 bel lt1) trodAll_mk0)),rfl,bel.frame _,fun h=>by cases h⟩
theorem said:Rows.TopAloneSaid:=
 OpenClaim.holds_of_wide 4 Tryz.f4 rfl rfl rfl rfl rfl rfl rfl ⟨rfl,rfl,rfl,rfl,rfl⟩ rfl rfl rfl rfl rfl named_ Tryz.func4 joined inst_ wrap_
  (fun os started H enc _=>lifted os started H enc)
theorem proved:Rows.TopAloneCardSaid:=
 Claim7.holds_tied_plain_at .later [] [.data, .data, .data, .listed, .data] true (true, "c003083851c4145e9b485e1c10402ef697cc3a8e20588172964b099e0e01a0ae") true
  said (fun _ h=>by cases h) byText (fun _ h=>by cases h) topAlone_row_tie rfl ⟨rfl,rfl⟩ main_ rfl
  (fun f fn hf hfn=>by
   obtain rfl:f=4:=Option.some.inj (named_.symm.trans hf) |>.symm
   obtain rfl:fn=Tryz.f4:=(Option.some.inj (Tryz.func4.symm.trans hfn)).symm
   exact ⟨looks_,fun j t ht=>by
    rw [Tryz.params4] at ht
    have h3:t=25∨t=26:=by
     rcases j with _ | _ | j
     ·simp at ht;simp [ht]
     ·simp at ht;simp [ht]
     ·simp at ht
    rcases h3 with rfl | rfl
    ·exact stand25
    ·exact stand26⟩)
  goes_
#print axioms proved
end Go.Proofs.YtpfijldkkfiooaaGreatDoor.topAlone
