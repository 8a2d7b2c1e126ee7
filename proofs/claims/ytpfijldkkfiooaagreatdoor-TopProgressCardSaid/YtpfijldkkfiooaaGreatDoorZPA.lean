/-
  TopProgress: for every input the Go function returns true, and the input reads as it did; no condition. From its walk to the given card.
-/
import Derived.Test.YtpfijldkkfiooaaGreatDoorCards
import Derived.Test.YtpfijldkkfiooaaGreatDoorTie
import Derived.LaidMore
import Derived.Stop.Joined
import Derived.SevenTiedAt
import Derived.Test.YtpfijldkkfiooaaGreatDoorZPA7
namespace Go.Proofs.YtpfijldkkfiooaaGreatDoor.topProgress
open Go Go.RowKit Go.ChangeShapes Go.WideShapes Go.ChangeAt
set_option maxRecDepth 20000 in
theorem O0 {w:World} {r:Reach} {b0:Nat} {v:Value} (hv:Value.okWide Tryz.prog w r b0 86 v):∃v0 v1 v2 v3,v = .agg #[v0,v1,v2,v3]∧Value.okWide Tryz.prog w r b0 22 v0∧Value.okWide Tryz.prog w r b0 23 v1:=by
 simp only[Value.okWide,Tryz.underlying86] at hv;obtain⟨cs,rfl,hsz,ts,hts,_,hall⟩:=hv;have hC:Tryz.prog.cellsOf 86=4:=by kernel_rfl
 rw[hC] at hsz;obtain rfl:ts=[22,23,3,3]:=Option.some.inj (hts.symm.trans (by kernel_rfl));obtain⟨l⟩:=cs
 match l,hsz with
 | [v0,v1,v2,v3],_=>
  refine⟨v0,v1,v2,v3,rfl,?_,?_⟩
  ·obtain⟨u,hu,ho⟩:=hall 0 v0 rfl;obtain rfl:22=u:=Option.some.inj hu;simp only[Value.okWide,Tryz.underlying22];exact ho
  ·obtain⟨u,hu,ho⟩:=hall 1 v1 rfl;obtain rfl:23=u:=Option.some.inj hu;simp only[Value.okWide,Tryz.underlying23];exact ho
set_option maxRecDepth 20000 in
theorem QR {H:Type} {enc:TypeId × Value→H} {w:World} {base b0:Nat} {held:Bool} {r:Reach} {v:Value} {d:DataW H} {p:List MemPlace} (hv:Value.okWide Tryz.prog w r b0 86 v) (h:DataW.Trod enc Tryz.prog w base (fun _=>true) held 86 v d p) :
  ∃x:Wld,v = .agg x.cells.toArray∧CB slE w x.A x.cap x.l∧(∀m∈x.l,Rn w m)∧CB u8E w x.B x.capb x.bs∧∀a∈x.bs,0≤a∧a<256:=by
 obtain⟨v0,v1,v2,v3,rfl,o0,o1⟩:=O0 hv;obtain⟨fuel,hf⟩:=h;obtain⟨xs,n,_,_,hl,hlen,hg⟩:=DataW.trod_struct Tryz.underlying86 hf
 match xs,hlen with
 | [y0,y1,y2,y3],_=>
  have c22:Tryz.prog.cellsOf 22=1:=by kernel_rfl
  have c23:Tryz.prog.cellsOf 23=1:=by kernel_rfl
  have c3:Tryz.prog.cellsOf 3=1:=by kernel_rfl
  have h0:DataW.trod enc Tryz.prog w base (fun _=>true) held n 22 (([v0,v1,v2,v3].drop 0).take (Tryz.prog.cellsOf 22))=some y0:=hg 0 _ rfl;have h1:DataW.trod enc Tryz.prog w base (fun _=>true) held n 23 (([v0,v1,v2,v3].drop 1).take (Tryz.prog.cellsOf 23))=some y1:=hg 1 _ rfl;have h2:DataW.trod enc Tryz.prog w base (fun _=>true) held n 3 (([v0,v1,v2,v3].drop 2).take (Tryz.prog.cellsOf 3))=some y2:=hg 2 _ rfl;have h3:DataW.trod enc Tryz.prog w base (fun _=>true) held n 3 (([v0,v1,v2,v3].drop 3).take (Tryz.prog.cellsOf 3))=some y3:=hg 3 _ rfl;rw[c22] at h0;rw[c23] at h1;rw[c3] at h2 h3
  obtain⟨a2,e2,_⟩:=DataW.trod_int Tryz.underlying3 h2;obtain⟨a3,e3,_⟩:=DataW.trod_int Tryz.underlying3 h3;obtain rfl:v2 = .int .i64 a2:=by simpa using e2
  obtain rfl:v3 = .int .i64 a3:=by simpa using e3
  have k0:DataW.Trod enc Tryz.prog w base (fun _=>true) held 22 v0 y0.1 y0.2:=by obtain⟨A,len,cap,rfl⟩:=okWide_slice Tryz.underlying22 o0;exact⟨n,h0⟩
  have k1:DataW.Trod enc Tryz.prog w base (fun _=>true) held 23 v1 y1.1 y1.2:=by obtain⟨A,len,cap,rfl⟩:=okWide_slice Tryz.underlying23 o1;exact⟨n,h1⟩
  obtain⟨A,cap,l,rfl,hA,hi⟩:=Ou o0 k0
  obtain⟨B,capb,bs,rfl,hB,hb⟩:=HL (E:=u8E) (OK:=fun a=>0≤a∧a<256) Tryz.underlying23 (by kernel_rfl) (fun _ _ _ h=>by
   obtain⟨z,e,_,wz⟩:=DataW.trod_int Tryz.underlying5 h
   exact⟨z,WI wz,e⟩) o1 k1
  exact⟨⟨A,cap,l,B,capb,bs,a2,a3⟩,rfl,hA,hi,hB,hb⟩
set_option maxRecDepth 100000 in
theorem lifted (os:Os) (started:os.Started) (H:Type) (enc:TypeId × Value→H) :
  ReturnsInHanded {} Tryz.checked os 6 .any (fun w args=>(Rows.topProgressSpec.pre enc Tryz.prog Tryz.f6 [] false w args∧laidMetH Tryz.prog Rows.topProgressRow.laid w)∧sizedMet enc Tryz.prog Tryz.f6 (OpenSpec.ofChange Rows.topProgressSpec) false w args)
   (Rows.topProgressSpec.post enc Tryz.prog Tryz.f6 false true false false):=by
 refine OJ (C:=Tryz.checked) (X:=fun w _=>laidMetH Tryz.prog Rows.topProgressRow.laid w) (fun _ _ _ hh h=>h.of_heap hh) kB started (by kernel_rfl) Tryz.func6
  (ChangeSpec.witness_shaped (enc:=enc) (C:=Tryz.checked) (os:=os) (X:=fun w _=>laidMetH Tryz.prog Rows.topProgressRow.laid w) false (World.doorLaid Tryz.prog 400 os) #[.agg #[.slice none 0 0,.slice none 0 0,.int .i64 0,.int .i64 0],.slice none 0 0] 8 rfl (World.shaped_of_RefB (by kernel_rfl) (by kernel_rfl)) (by kernel_rfl) (by kernel_rfl) (by kernel_rfl) (Sj os _)) ?_
 intro W base args ds gs before hsh hval0 hW _ hL;have hval:∀(j:Nat) t v,Tryz.f6.params[j]? = some t→args[j]? = some v→Value.okWide Tryz.prog W .any base t v:=hval0;have hW':=hW;obtain⟨p,q,hA0,hV,rfl,hfz,hnd⟩:=hW;have hA:DataW.TrodAll enc Tryz.prog W 0 (fun _=>true) true Tryz.f6.params.toList args.toList ds p:=hA0;rw[Tryz.params6] at hA hval;obtain⟨v0,vs0,d0,ds0,p0,q0,hargs,rfl,rfl,h0,r0⟩:=trodAll_cons hA;obtain⟨v1,vs1,d1,ds1,p1,q1,rfl,rfl,rfl,h1,r1⟩:=trodAll_cons r0;obtain⟨rfl,rfl,rfl⟩:=trodAll_nil r1;obtain rfl:args=#[v0,v1]:=by cases args;simp_all
 obtain⟨rfl,rfl⟩:=trodVars_none hV;have k0:=h0;have lt0:∀x∈p0,x.block<W.heap.size:=by obtain⟨m,hm⟩:=k0;exact DataW.trod_lt m _ _ _ hm
 obtain⟨x,rfl,xA,xi,xB,xb⟩:=QR (hval 0 86 v0 rfl rfl) h0;have k1:=h1;have lt1:∀x∈p1,x.block<W.heap.size:=by obtain⟨m,hm⟩:=k1;exact DataW.trod_lt m _ _ _ hm
 obtain⟨C,capc,raw,rfl,hC,hcl⟩:=HL (E:=u8E) (OK:=fun a=>0≤a∧a<256) Tryz.underlying23 (by kernel_rfl) (fun _ _ _ h=>by
  obtain⟨z,e,_,wz⟩:=DataW.trod_int Tryz.underlying5 h
  exact⟨z,WI wz,e⟩) (hval 1 23 v1 rfl rfl) h1
 clear hA0 hval0;have hb0:=TW hsh (VV hL);have hxI:=YH xA xi xB xb;refine((c6 (YV hb0) x hxI C capc raw (Mb hC) hC.1 hcl (kF hxI.r) (Wx 1 16) kD).run W [] W (fun e W'=>e = .returned (.bool true)∧Below W.heap.size W W') (jC W) fun w' hw=>⟨rfl,UF hw⟩).mono fun e W' ⟨he,bel⟩=>?_;subst he
 exact⟨_,rfl,_,_,_,[],_,[],hW',trodAll_mk1 (shut_bool Tryz.underlying4 _),(trodAll_cons_mk (Below.trod PH (by kernel_rfl) (of_decide_eq_true (by kernel_rfl)) k0 bel lt0) (trodAll_cons_mk (Below.trod PH (by kernel_rfl) (of_decide_eq_true (by kernel_rfl)) k1 bel lt1) trodAll_mk0)),rfl,bel.frame _,fun h=>by cases h⟩
theorem said:Rows.TopProgressSaid:=
 OpenClaim.holds_of_wide 6 Tryz.f6 rfl rfl rfl rfl rfl rfl rfl ⟨rfl,rfl,rfl,rfl,rfl⟩ rfl rfl rfl rfl rfl S8 Tryz.func6 XC aS cP
  (fun os started H enc _=>lifted os started H enc)
theorem proved:Rows.TopProgressCardSaid:=
 Claim7.holds_tied_plain_at .later [] [.data, .data, .data, .listed, .data] true (true, "c003083851c4145e9b485e1c10402ef697cc3a8e20588172964b099e0e01a0ae") true
  said (fun _ h=>by cases h) WX (fun _ h=>by cases h) topProgress_row_tie rfl ⟨rfl,rfl⟩ bI rfl
  (fun f fn hf hfn=>by
   obtain rfl:f=6:=Option.some.inj (S8.symm.trans hf) |>.symm;obtain rfl:fn=Tryz.f6:=(Option.some.inj (Tryz.func6.symm.trans hfn)).symm
   exact⟨XK,fun j t ht=>by
    rw[Tryz.params6] at ht
    have h3:t=86∨t=23:=by
     rcases j with _|_|j
     ·simp at ht;simp[ht]
     ·simp at ht;simp[ht]
     ·simp at ht
    rcases h3 with rfl|rfl
    ·exact VX
    ·exact VW⟩)
  aN
#print axioms proved
end Go.Proofs.YtpfijldkkfiooaaGreatDoor.topProgress
