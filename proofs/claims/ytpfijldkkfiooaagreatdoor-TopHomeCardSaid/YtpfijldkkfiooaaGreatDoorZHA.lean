/-
  TopHome: for every input the Go function returns true, and the input reads as it did; no condition. From its walk to the given card.
-/
import Derived.Test.YtpfijldkkfiooaaGreatDoorCards
import Derived.Test.YtpfijldkkfiooaaGreatDoorTie
import Derived.LaidMore
import Derived.Stop.Joined
import Derived.SevenTiedAt
import Derived.Test.YtpfijldkkfiooaaGreatDoorZHA7
namespace Go.Proofs.YtpfijldkkfiooaaGreatDoor.topHome
open Go Go.RowKit Go.ChangeShapes Go.WideShapes Go.ChangeAt
set_option maxRecDepth 100000 in
theorem lifted (os:Os) (started:os.Started) (H:Type) (enc:TypeId × Value→H) :
  ReturnsInHanded {} Tryz.checked os 5 .any (fun w args=>(Rows.topHomeSpec.pre enc Tryz.prog Tryz.f5 [] false w args∧laidMetH Tryz.prog Rows.topHomeRow.laid w)∧sizedMet enc Tryz.prog Tryz.f5 (OpenSpec.ofChange Rows.topHomeSpec) false w args)
   (Rows.topHomeSpec.post enc Tryz.prog Tryz.f5 false true false false):=by
 refine ret_shaped (C:=Tryz.checked) (X:=fun w _=>laidMetH Tryz.prog Rows.topHomeRow.laid w) (fun _ _ _ hh h=>h.of_heap hh) own_ started (by kernel_rfl) Tryz.func5
  (ChangeSpec.witness_shaped (enc:=enc) (C:=Tryz.checked) (os:=os) (X:=fun w _=>laidMetH Tryz.prog Rows.topHomeRow.laid w) false (World.doorLaid Tryz.prog 400 os) #[.agg #[.slice none 0 0,.slice none 0 0,.int .i64 0,.int .i64 0],.slice none 0 0,.int .i64 0] 8 rfl (World.shaped_of_RefB (by kernel_rfl) (by kernel_rfl)) (by kernel_rfl) (by kernel_rfl) (by kernel_rfl) (door_met os _)) ?_
 intro W base args ds gs before hsh hval0 hW _ hL
 have hval:∀ (j:Nat) t v,Tryz.f5.params[j]? = some t→args[j]? = some v→Value.okWide Tryz.prog W .any base t v:=hval0
 have hW':=hW
 obtain ⟨p,q,hA0,hV,rfl,hfz,hnd⟩:=hW
 have hA:DataW.TrodAll enc Tryz.prog W 0 (fun _=>true) true Tryz.f5.params.toList args.toList ds p:=hA0
 rw [Tryz.params5] at hA hval
 obtain ⟨v0,vs0,d0,ds0,p0,q0,hargs,rfl,rfl,h0,r0⟩:=trodAll_cons hA
 obtain ⟨v1,vs1,d1,ds1,p1,q1,rfl,rfl,rfl,h1,r1⟩:=trodAll_cons r0
 obtain ⟨v2,vs2,d2,ds2,p2,q2,rfl,rfl,rfl,h2,r2⟩:=trodAll_cons r1
 obtain ⟨rfl,rfl,rfl⟩:=trodAll_nil r2
 obtain rfl:args=#[v0,v1,v2]:=by cases args;simp_all
 obtain ⟨rfl,rfl⟩:=trodVars_none hV
 have k0:=h0
 have lt0:∀ x∈p0,x.block<W.heap.size:=by obtain ⟨m,hm⟩:=k0;exact DataW.trod_lt m _ _ _ hm
 obtain ⟨x,rfl,xA,xi,xB,xb⟩:=open_wld (hval 0 25 v0 rfl rfl) h0
 have k1:=h1
 have lt1:∀ x∈p1,x.block<W.heap.size:=by obtain ⟨m,hm⟩:=k1;exact DataW.trod_lt m _ _ _ hm
 obtain ⟨C,capc,ls,rfl,hC,hcl⟩:=open_chos (hval 1 26 v1 rfl rfl) h1
 have k2:=h2
 have lt2:∀ x∈p2,x.block<W.heap.size:=by obtain ⟨m,hm⟩:=k2;exact DataW.trod_lt m _ _ _ hm
 obtain ⟨cut,rfl,e2,f2,w2⟩:=open_int Tryz.underlying3 (hval 2 3 v2 rfl rfl) h2
 clear hA0 hval0
 have hb0:=sp_block hsh (sp_laid hL)
 have hxI:=wld_in xA xi xB xb
 refine ((c5 (hpP W) (hpQ W) (arg_W hb0) x hxI C capc ls (view_W hC) hcl hC.1 cut (wf_i64 w2) fun hok hf=>hm_I hxI.r (wf_i64 w2) hok hf).run W [] W (fun e W'=>e = .returned (.bool true)∧Below W.heap.size W W') (hp_W W) fun w' hw=>⟨rfl,below_W hw⟩).mono fun e W' ⟨he,bel⟩=>?_
 subst he
 exact ⟨_,rfl,_,_,_,[],_,[],hW',trodAll_mk1 (shut_bool Tryz.underlying4 _),(trodAll_cons_mk (Below.trod laidOut (by kernel_rfl) (of_decide_eq_true (by kernel_rfl)) k0 bel lt0) (trodAll_cons_mk (Below.trod laidOut (by kernel_rfl) (of_decide_eq_true (by kernel_rfl)) k1 bel lt1) (trodAll_cons_mk (Below.trod laidOut (by kernel_rfl) (of_decide_eq_true (by kernel_rfl)) k2 bel lt2) trodAll_mk0))),rfl,bel.frame _,fun h=>by cases h⟩
theorem said:Rows.TopHomeSaid:=
 OpenClaim.holds_of_wide 5 Tryz.f5 rfl rfl rfl rfl rfl rfl rfl ⟨rfl,rfl,rfl,rfl,rfl⟩ rfl rfl rfl rfl rfl named_ Tryz.func5 joined inst_ wrap_
  (fun os started H enc _=>lifted os started H enc)
theorem proved:Rows.TopHomeCardSaid:=
 Claim7.holds_tied_plain_at .later [] [.data, .data, .data, .listed, .data] true (true, "c003083851c4145e9b485e1c10402ef697cc3a8e20588172964b099e0e01a0ae") true
  said (fun _ h=>by cases h) byText (fun _ h=>by cases h) topHome_row_tie rfl ⟨rfl,rfl⟩ main_ rfl
  (fun f fn hf hfn=>by
   obtain rfl:f=5:=Option.some.inj (named_.symm.trans hf) |>.symm
   obtain rfl:fn=Tryz.f5:=(Option.some.inj (Tryz.func5.symm.trans hfn)).symm
   exact ⟨looks_,fun j t ht=>by
    rw [Tryz.params5] at ht
    have h3:t=25∨t=26∨t=3:=by
     rcases j with _ | _ | _ | j
     ·simp at ht;simp [ht]
     ·simp at ht;simp [ht]
     ·simp at ht;simp [ht]
     ·simp at ht
    rcases h3 with rfl | rfl | rfl
    ·exact stand25
    ·exact stand26
    ·exact stand3⟩)
  goes_
#print axioms proved
end Go.Proofs.YtpfijldkkfiooaaGreatDoor.topHome
