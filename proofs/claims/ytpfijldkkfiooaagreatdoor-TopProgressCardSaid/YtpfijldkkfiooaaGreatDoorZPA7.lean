/-
  Part 7 of what the claim stands on: walks through the code, plain laws.
-/
import Derived.Test.YtpfijldkkfiooaaGreatDoorZPA6
set_option linter.unusedVariables false
set_option linter.unusedSimpArgs false
namespace Go.Proofs.YtpfijldkkfiooaaGreatDoor
open Go Go.RowKit
section
variable {P:Program} {n:Nat} {r:Option Nat} {N:Nat × List Deferred} {T:Tb} {e:World} {Q:Exit→Act→World→Prop} {ops:Array Oper} {rest:List Oper} {L Y:List Ck} {d:Nat} {ty:TypeId} {pos:String} {af:Array Edge} {J J' Jx:HP}
theorem Zyr {l t:Nat} {xs:List Operand} {ts:Array TypeId} {vs:List Value} (hY:Yd P l vs J J' Jx) (i:Nat) (ht:look T t=some (.func (.yield l) #[] #[])) (hv:evA T xs=some vs) (hL:pick L i=some (.hp J,Y))
  (k1:ZL P r n ops Q rest N ((d,.bool true)::T) e (.hp J'::Y)) (k2:ZL P r n ops Q rest N ((d,.bool false)::T) e (.hp Jx::Y)) (hN:Nat.blt d N.1=true:=by rfl):ZL P r n ops Q (⟨some d,.call { callee := .value (.tmp t),args:=xs.toArray,argTypes:=ts },ty,pos,af,none⟩::rest) N T e L:=fun w hp ok a fr=>by
 obtain⟨fn,tmps,assign,body,hy,hR⟩:=hY.run e Y w (hp.pick hL);unfold wpListIn;rw[if_pos (AH _)];refine⟨fun _ _=>trivial,?_⟩;show Oper.uponIn (Wd r) n P (⟨some d,.call { callee := .value (.tmp t),args:=xs.toArray,argTypes:=ts },ty,pos,af,none⟩:Oper) a _ Q ((Oper.semAt r a.eval _).run P w);have hf:a.eval (.tmp t) = .func (.yield l) #[] #[]:=fr.ev ht;have hrun:(execOp a.eval ⟨some d,.call { callee := .value (.tmp t),args:=xs.toArray,argTypes:=ts },ty,pos,af,none⟩).run P w = .ok (.round l fn tmps assign body) w:=by simp[execOp,resolve,Deferred.ofValue,hf,(fr.evA hv).map,invoke,hy]
 rw[Oper.semAt_eq r a.eval _ (fun c hc=>by cases hc),hrun];refine⟨fun hd=>(by cases hd),?_⟩;have hR':RoundIn (Wd r) (n-1) P l fn tmps assign body w _:=⟨hR.1,fun c cs _=>hR.2 c cs (room_wide _)⟩
 refine hR'.mono ?_;rintro en W' (⟨rfl,h⟩|⟨rfl,h⟩)
 ·exact k1 W' h ok _ (fr.put d _ (Nat.le_of_ble_eq_true hN))
 ·exact k2 W' h ok _ (fr.put d _ (Nat.le_of_ble_eq_true hN))
end
structure SqK {α:Type} (P:Program) (gf:Nat) (lb:List Value) (A:List α→List Ck) (C:List Ck) (C':List α→List Ck) (R:α→List Value→Prop) (xs:List α):Prop where
 run:∀(l:Nat) (J Jx F:List α→HP),(∀pre h,J pre h→Sep (A pre++[.hp (F pre)]) h)→(∀pre h,Sep (A pre++[.hp (F pre)]) h→J pre h)→(∀pre x,pre++[x] <+: xs→∀vs,R x vs→Yd P l vs (J pre) (J (pre++[x])) (Jx (pre++[x]))) →
  Sp P gf (.func (.yield l) #[] #[]::lb) (.hp (J [])::C) fun K=>K (.returned (.tuple #[])) (.hp (J xs)::C' xs)∧∀pre,pre <+: xs→K (.returned (.tuple #[])) (.hp (Jx pre)::C' pre)
theorem TO {A X:List Ck} {O1 O2:Ck} {p:Prop}:∀h,(p∧Sep (O1::O2::(A++X)) h)→Sep (A++[.hp fun h=>p∧Sep (O1::O2::X) h]) h:=fun h ⟨hp,hs⟩=>by have hs:Sep ([O1,O2]++(A++X)) h:=hs;have h2:=Sep.comm hs;rw[List.append_assoc] at h2;exact Sep.swapTail h2 fun h' hs'=>BN (p:=fun h=>p∧Sep (O1::O2::X) h) ⟨hp,Sep.comm hs'⟩
theorem OQ {A X:List Ck} {O1 O2:Ck} {p:Prop}:∀h,Sep (A++[.hp fun h=>p∧Sep (O1::O2::X) h]) h→p∧Sep (O1::O2::(A++X)) h:=fun h hs=>by
 have h1:Sep ([.hp fun h=>p∧Sep (O1::O2::X) h]++A) h:=Sep.comm hs;obtain⟨_,_,_,_,_,hj,_⟩:=h1;refine⟨hj.1,?_⟩;have h2:Sep (A++(X++[O1,O2])) h:=Sep.swapTail hs fun h' hs'=>by have h3:Sep (.hp (Sep (O1::O2::X))::[]) h':=Sep.hd (q := .hp (Sep (O1::O2::X))) hs' fun _ hh=>hh.2;have h4:=h3.flat;rw[List.append_nil] at h4;exact Sep.comm (A:=[O1,O2]) h4
 rw[←List.append_assoc] at h2;exact Sep.comm h2
set_option maxHeartbeats 1000000 in
theorem Zrk {α:Type} {P:Program} {n:Nat} {N:Nat × List Deferred} {T:Tb} {e:World} {Q:Exit→Act→World→Prop} {L X:List Ck} {assign body:Code} {gf tg:Nat} {ps:List Nat} {lb:List Value} {xs:List α} {R:α→List Value→Prop} {A0 I0 C':List α→List Ck} {C:List Ck}
  (c:SqK P gf lb A0 C C' R xs) (I:List α→List Ck) (pn:List α→Prop) (Ir:List α→List Ck) (pr:List α→Prop) (Ie:Nat→List α→List Ck) (pe:Nat→List α→Prop) (is:List Nat)
  (ht:look T tg=some (.func (.func gf) #[] lb.toArray)) (hL:sel L is=some (C++I [],X))
  (hI:∀pre,I pre=A0 pre++I0 pre) (hn0:pn []) (hbody:∀e l pre x vs F,pre++[x] <+: xs→R x vs→pn pre→ZC P (some l) 7 assign (Exit.then (Ak P l body I pn Ir pr Ie pe (N.1,[]) e F (pre++[x])) noQ) (N.1,[]) (rgT ps vs T) e (I pre++F))
  (hdone:∀D,pn xs→ZX none Q .normal (N.1,mkD D::N.2) T e (mkO D::(I xs++(C' xs++X))))
  (hret:∀D pre,pre <+: xs→pr pre→ZC P none n .ret Q (N.1,mkD D::N.2) T e (mkO D::(Ir pre++(C' pre++X))))
  (hexit:∀D id pre,pre <+: xs→pe id pre→ZC P none n (.exit id) Q (N.1,mkD D::N.2) T e (mkO D::(Ie id pre++(C' pre++X))))
  (hps:∀x vs,R x vs→vs.length=ps.length) (hpn:∀p∈ps,p<N.1) (hf:Bq P gf=true:=by first|assumption|kernel_rfl):ZC P none n (.rangeFunc (.tmp tg) ps.toArray assign body) Q N T e L:=fun w hp ok a fr=>by
 obtain⟨fng,h1,h2,h3⟩:=BA hf
 have hn' : ¬ fng.name = "runtime.NumGoroutine" := by simpa using h2
 have hb':¬fng.body=none:=fun h=>by rw[h] at h3;cases h3
 have eg:∀(args:Array Value) (w:World),(callFunc gf args).run P w = .ok (.enter gf args) w:=fun args w=>by simp[callFunc,h1,hn',hb']
 refine wpIn_rangeFunc ?_;intro fn hfn;obtain⟨rec,hrec⟩:∃rec:LoopState→Option Code→Loop,rec=fun st pe=>{ state:=st,pending:=pe,fn,tmps:=a.tmps,params:=ps.toArray,assign,body,defers:=w.heap.size }:=⟨_,rfl⟩
 obtain⟨D,hD⟩:∃D,D=w.heap.size:=⟨_,rfl⟩
 obtain⟨l,hl⟩:∃l,l=w.heap.size+1:=⟨_,rfl⟩
 have hpa:Hp e (C++I []++X) w:=hp.sel hL;have hp1:Hp e (mkO D::(C++I []++X)) (w.alloc (.deferred (some []))):=hpa.newO ((AJ.refl _ w).alloc _) (by rw[hD];exact World.alloc_heap_new w _) (Nat.le_of_eq hD.symm)
 have hp2:Hp e (.obj l (.loop (rec .ready none))::mkO D::(C++I []++X)) ((w.alloc (.deferred (some []))).alloc (.loop (rec .ready none))):=hp1.newO ((AJ.refl _ _).alloc _) (by
  have:=World.alloc_heap_new (w.alloc (.deferred (some []))) (.loop (rec .ready none));rw[World.size_alloc] at this
  rw[hl];exact this) (by rw[hl,World.size_alloc];exact Nat.le_refl _)
 let J:List α→HP:=fun pre h=>pn pre∧Sep (.obj l (.loop (rec .ready none))::mkO D::I pre) h
 let Jx:List α→HP:=fun pre h=>(pr pre∧Sep (.obj l (.loop (rec .done (some .ret)))::mkO D::Ir pre) h)∨∃id,pe id pre∧Sep (.obj l (.loop (rec .done (some (.exit id))))::mkO D::Ie id pre) h
 refine⟨l,[mkD D],(w.alloc (.deferred (some []))).alloc (.loop (rec .ready none)),{ target := .fn (.func gf) lb.toArray,args:=#[.func (.yield l) #[] #[]] },(w.alloc (.deferred (some []))).alloc (.loop (rec .ready none)),gf,#[.func (.yield l) #[] #[]]++lb.toArray,(w.alloc (.deferred (some []))).alloc (.loop (rec .ready none)),?_,?_,?_,?_,fun h=>(by cases h),?_⟩
 ·rw[hrec,hl,hD];exact run_enterLoop_outer _ _ _ _ _
 ·have:=fr.ev ht;simp only[resolve,this];simp[go_sem]
 ·intro f' hf';trivial
 ·simp[invoke,go_sem,eg]
 have frD:Fr (N.1,mkD D::N.2) T { a with defers:=mkD D::a.defers }:=⟨by show _::a.defers=_::N.2;rw[fr.df],fr.sz,fr.get⟩
 have hc:Calls P gf (#[.func (.yield l) #[] #[]]++lb.toArray) ((w.alloc (.deferred (some []))).alloc (.loop (rec .ready none))) (fun en w'=>en = .returned (.tuple #[])∧(Hp e (.hp (J xs)::C' xs++X) w'∨∃pre,pre <+: xs∧Hp e (.hp (Jx pre)::C' pre++X) w')):=by
  have har:#[Value.func (.yield l) #[] #[]]++lb.toArray=(Value.func (.yield l) #[] #[]::lb).toArray:=by simp
  rw[har];refine(c.run l J Jx (fun pre h=>pn pre∧Sep (.obj l (.loop (rec .ready none))::mkO D::I0 pre) h) (fun pre h hh=>TO h (by rw[←hI];exact hh)) (fun pre h hh=>by have:=OQ h hh;rw[←hI] at this;exact this) ?_).run e X _ _ ?_ ⟨fun w' h=>⟨rfl,.inl h⟩,fun pre hpre w' h=>⟨rfl,.inr ⟨pre,hpre,h⟩⟩⟩
  · -- one round
   intro pre x hx vs hR;refine⟨fun e' Y W hpW=>?_⟩;have hpn1:pn pre:=by obtain⟨_,_,_,_,_,hj,_⟩:=hpW.sep;exact hj.1
   have h7:Hp e' ((.obj l (.loop (rec .ready none))::mkO D::I pre)++Y) W:=hpW.imp fun _ hs=>(hs.hd (q := .hp (Sep (.obj l (.loop (rec .ready none))::mkO D::I pre))) fun _ h=>h.2).flat;have hlW:=h7.ob (i:=0) (b:=l) (o := .loop (rec .ready none)) rfl;have hy:=run_yield (P:=P) (args:=vs.toArray) hlW (by rw[hrec];simp[hps x vs hR]);rw[hrec] at hy
   have h8:Hp e' (I pre++(.obj l (.loop (rec .ready none))::mkO D::Y)) W:=h7.imp fun _ hs=>by
    have:Sep ([.obj l (.loop (rec .ready none)),mkO D]++(I pre++Y)) _:=hs;have:=(Sep.comm this)
    rw[List.append_assoc] at this;exact Sep.swapTail this fun _ hs=>Sep.comm hs
   have frR:Fr (N.1,[]) (rgT ps vs T) { tmps:=(ps.toArray.zip vs.toArray).foldl (fun t (p,v)=>t.setIfInBounds p v) a.tmps,defers:=[] }:=by have:=P3 (P:=N.1) ps vs (T:=T) (ts:=a.tmps) hpn ⟨rfl,fr.sz,fr.get⟩;simpa using this
   have hz:=hbody e' l pre x vs _ hx hR hpn1 W h8 (.inr (fun⟨_,_,h⟩=>h)) _ frR;refine⟨fn,_,assign,body,hy,Gp (n:=7) (roundIn_of_wpIn (F:=Wd none) trivial (wpIn_mono hz ?_))⟩;intro ex a1 W1 hx1;cases ex with
   | normal=>
    obtain⟨T1,M1,fr1,hp1',hb1⟩:=hx1;have h9:Hp e' (.obj l (.loop (rec .ready none))::mkO D::(Y++M1)) W1:=hp1'.comm;have hl9:=h9.ob (i:=0) (b:=l) (o := .loop (rec .ready none)) rfl;refine⟨_,run_beginRound hl9 (by rw[hrec]),?_⟩;have h10:Hp e' (.obj l (.loop { rec .ready none with state := .busy })::mkO D::(Y++M1)) (W1.putObj l (.loop { rec .ready none with state := .busy })):=h9.setO (BU W1 l _) (World.putObj_heap_same (Array.getElem?_eq_some_iff.1 hl9).1)
    have h11:Hp e' (M1++(.obj l (.loop { rec .ready none with state := .busy })::mkO D::Y)) (W1.putObj l (.loop { rec .ready none with state := .busy })):=h10.comm (A := .obj l (.loop { rec .ready none with state := .busy })::mkO D::Y);have hz2:=hb1 _ _ h11 (.inr Ro) a1 fr1;refine wpIn_mono hz2 ?_
    have fin:∀(jump:Option Code) (W3:World) (M:List Ck),Hp e' (M++(.obj l (.loop { rec .ready none with state := .busy })::mkO D::Y)) W3→(Instr.endRound l jump).run P W3 = .ok (.bool jump.isNone) (W3.putObj l (.loop (rec (if jump.isNone then .ready else .done) jump)))∧Hp e' ((.obj l (.loop (rec (if jump.isNone then .ready else .done) jump))::mkO D::M)++Y) (W3.putObj l (.loop (rec (if jump.isNone then .ready else .done) jump))):=fun jump W3 M h=>by
     have h12:Hp e' (.obj l (.loop { rec .ready none with state := .busy })::mkO D::(Y++M)) W3:=h.comm;have hl12:=h12.ob (i:=0) (b:=l) (o := .loop { rec .ready none with state := .busy }) rfl;refine⟨by have:=run_endRound (P:=P) jump hl12;rw[hrec] at this⊢;exact this,?_⟩;have h13:=h12.setO (o' := .loop (rec (if jump.isNone then .ready else .done) jump)) (BU W3 l _) (World.putObj_heap_same (Array.getElem?_eq_some_iff.1 hl12).1);exact h13.imp fun _ hs=>hs.mapTl fun _ hs=>hs.mapTl fun _ hs=>Sep.comm hs
    rintro ex2 a2 W3 h3;cases ex2 with
    | normal=>
     obtain⟨hr,hh⟩:=fin none W3 _ h3.2;exact⟨_,_,hr,.inl ⟨rfl,hh.unfl fun _ hs=>⟨h3.1,hs⟩⟩⟩
    | ret=>
     obtain⟨hr,hh⟩:=fin (some .ret) W3 _ h3.2;exact⟨_,_,hr,.inr ⟨rfl,hh.unfl fun _ hs => .inl ⟨h3.1,hs⟩⟩⟩
    | exit id=>
     obtain⟨hr,hh⟩:=fin (some (.exit id)) W3 _ h3.2;exact⟨_,_,hr,.inr ⟨rfl,hh.unfl fun _ hs => .inr ⟨id,h3.1,hs⟩⟩⟩
    | goto t=>exact h3.elim
    | panic c=>exact h3.elim
    | outgrown=>exact h3.elim
   | _=>exact hx1.elim
  · -- at the beginning
   have h4:Hp e (.obj l (.loop (rec .ready none))::mkO D::(I []++(C++X))) ((w.alloc (.deferred (some []))).alloc (.loop (rec .ready none))):=hp2.imp fun _ hs=>hs.mapTl fun _ hs=>hs.mapTl fun _ hs=>by have hs:Sep (C++I []++X) _:=hs;have:Sep (.hp (Sep (C++I []))::X) _:=hs.unflat;have:=(this.hd (q := .hp (Sep (I []++C))) fun _ hs=>Sep.comm hs).flat;simpa using this
   exact(show Hp e ((.obj l (.loop (rec .ready none))::mkO D::I [])++(C++X)) _ from h4).unfl fun _ h=>⟨hn0,h⟩
 refine EU (r:=none) (hc.mono ?_);rintro en W2 ⟨rfl,h|⟨pre,hpre,h⟩⟩
 ·have hpn2:pn xs:=by obtain⟨_,_,_,_,_,hj,_⟩:=h.sep;exact hj.1
  have h5:Hp e ((.obj l (.loop (rec .ready none))::mkO D::I xs)++(C' xs++X)) W2:=h.imp fun _ hs=>(hs.hd (q := .hp (Sep (.obj l (.loop (rec .ready none))::mkO D::I xs))) fun _ h=>h.2).flat;have hl5:=h5.ob (i:=0) (b:=l) (o := .loop (rec .ready none)) rfl;refine⟨none,_,by have:=run_endLoop (P:=P) hl5 (by rw[hrec];simp);rw[hrec] at this;exact this,?_⟩;have h6:=(h5.setO (o' := .loop { rec .ready none with state := .exhausted }) (BU W2 l _) (World.putObj_heap_same (Array.getElem?_eq_some_iff.1 hl5).1)).tl;rw[hrec] at h6;exact hdone D hpn2 _ h6 ok _ frD
 ·have key:∃c,(Hp e (.obj l (.loop (rec .done (some c)))::mkO D::(match c with | .ret=>Ir pre | .exit id=>Ie id pre|_=>[])++(C' pre++X)) W2)∧(match c with | .ret=>pr pre | .exit id=>pe id pre|_=>False):=by
   obtain⟨h1',h2',e1,e2,d,hj,hs⟩:=h.sep;rcases hj with⟨hp0,hj⟩|⟨id,hp0,hj⟩
   ·exact⟨.ret,⟨h.os,h.tape,h.output,Sep.flat (L := .obj l (.loop (rec .done (some .ret)))::mkO D::Ir pre) ⟨h1',h2',e1,e2,d,hj,hs⟩⟩,hp0⟩
   ·exact⟨.exit id,⟨h.os,h.tape,h.output,Sep.flat (L := .obj l (.loop (rec .done (some (.exit id))))::mkO D::Ie id pre) ⟨h1',h2',e1,e2,d,hj,hs⟩⟩,hp0⟩
  obtain⟨c,h5,h0⟩:=key;have hl5:=h5.ob (i:=0) (b:=l) (o := .loop (rec .done (some c))) rfl;refine⟨some c,_,by have:=run_endLoop (P:=P) hl5 (by rw[hrec];simp);rw[hrec] at this;exact this,?_⟩;have h6:=(h5.setO (o' := .loop { rec .done (some c) with state := .exhausted }) (BU W2 l _) (World.putObj_heap_same (Array.getElem?_eq_some_iff.1 hl5).1)).tl;rw[hrec] at h6;cases c with
  | ret=>exact hret D pre hpre h0 _ h6 ok _ frD
  | exit id=>exact hexit D id pre hpre h0 _ h6 ok _ frD
  | _=>exact h0.elim
end Go.Proofs.YtpfijldkkfiooaaGreatDoor
namespace Go.Proofs.YtpfijldkkfiooaaGreatDoor
open Go
set_option maxRecDepth 4000
abbrev chE (A:Option Addr) (n j:Nat):List Value:=[.slice (CQ A (2*j+min 2 (n-2*j)) (2*j) 1) (min 2 (n-2*j)) (min 2 (n-2*j))]
theorem P6 {j N:Nat} (h:j<N):List.range j++[j] <+: List.range N:=by rw[←List.range_succ,show N=(j+1)+(N-j-1) by omega,List.range_add];exact List.prefix_append _ _
theorem kK (b1 b2 n cap:Nat) (A:Option Addr) (hn:n≤cap) (hc:n≤1048576):Sq Tryz.prog 203 [pt b1,pt b2] [.blk b1 23 [.slice A n cap],.blk b2 3 [.int .i64 2]] (fun _=>[]) (chE A n) (List.range ((n+1)/2)):=by
 refine⟨fun y J Jx hYd=>?_⟩;refine Zen Tryz.func203 U U U fun e X Φ hS=>Zsr<|Zy U<|Znb ?_;refine Zlq (ι:={ j:Nat // j≤(n+1)/2 }) (fun j=>[(4,.int .i64 ((2*j.1:Nat):Int)),(0,.func (.yield y) #[] #[]),(1,pt b1),(2,pt b2)]) (fun j=>[.hp (J (List.range j.1)),.blk b1 23 [.slice A n cap],.blk b2 3 [.int .i64 2]]) (fun j=>(n+1)/2-j.1) ⟨0,Nat.zero_le _⟩ ⟨U,U,U,U,trivial⟩ [0,0,0] U fun j=>Zsq<|Zsr<|Za 2 [1] U U<|Zv (Aw ⟨_,Tryz.underlying23⟩ U)<|Zv (ylt U U)<|Zn<|Zif U (fun h9=>?_) (fun h9=>?_);refine Zkn<|Zsq<|Zbl<|Zsq<|Zhd [] U U<|Zht 0 U (yd 2 U U U)<|Zht 1 U (yd 1 U U U)<|Zht 2 U (ym U) ?_
 rotate_left;refine Zex<|Zxt<|Zxt<|Zxx<|Zee ?_;rotate_left
 ·have hlt:j.1<(n+1)/2:=by omega
  have hle:2*j.1≤n:=by omega
  have hmn:min (2:Int) ((n-2*j.1:Nat):Int)=((min 2 (n-2*j.1):Nat):Int):=by
   by_cases h:2≤n-2*j.1
   ·rw[Nat.min_eq_left h];omega
   ·rw[Nat.min_eq_right (by omega)];omega
  refine Zht 3 U (Wh (j:=2*j.1) 1 Tryz.underlying23 U U hle)<|Zht 4 U (Aw ⟨_,Tryz.underlying23⟩ U)<|Zht 5 U (ymn U U hmn)<|Zht 6 U (ya U)<|ZHn<|Zxs<|Za 5 [1] U U ?_;refine Zv (Ac U U (Ar U (by omega)))<|Zb 2 U<|Zv (Ac U U (Ar U (by omega))) ?_;refine Zv (YP (i:=2*j.1) (j:=2*j.1+min 2 (n-2*j.1)) (m:=2*j.1+min 2 (n-2*j.1)) 1 Tryz.underlying23 U U U U (by omega) (by omega) (by omega) (n1:=min 2 (n-2*j.1)) (c1:=min 2 (n-2*j.1)) (by omega) (by omega)) ?_;refine Zyd (hYd _ _ (P6 hlt)) 0 U U U ?_ ?_;refine Zv (BM U)<|Zn<|Zcf U<|Zsk<|Zxn<|Znx<|Zrg<|Za 2 [2] U U ?_
  refine Zv (Ac U U (Ar U (by omega)))<|Zy U<|Znl ?_;rotate_left;refine Zv (BM U)<|Zn<|Zct U<|Zrt<|Zr2<|Zr1<|Zr1<|Zr2 ?_;rotate_left
  ·rw[←List.range_succ];refine Zlr ⟨j.1+1,hlt⟩ (by show(n+1)/2-(j.1+1)<(n+1)/2-j.1;omega) ⟨U,U,U,U,trivial⟩ [0,0,0] 0 U U
  ·refine Zre .n (hS.2 _ (P6 hlt)) [0] 2 U U U U
 ·rw[show j.1=(n+1)/2 by have:=j.2;omega];refine Zre .n hS.1 [0] 2 U U U U
theorem fB (A:Option Addr) (n cap:Nat):Sp Tryz.prog 157 [.slice A n cap,.int .i64 2] [] fun K=>∀b1 b2,K (.returned (.func (.func 203) #[] #[pt b1,pt b2])) [.blk b1 23 [.slice A n cap],.blk b2 3 [.int .i64 2]]:=by refine Zen Tryz.func157 U U U fun e X Φ hS=>Zsr<|Ze (ebx U) fun b2=>Zw<|Ze (ebx U) fun b3=>Zw<|Zy U<|Aj<|Zv (yd 0 U U U) ?_;refine Zv (ylt U U)<|Zn<|Zcf U<|Zks<|Zv (yfn U U)<|Zy U<|Znl ?_;refine Zxr<|Zre (.t U .n) (hS _ _) [1,0] 0 U U U U
theorem eI (A:Option Addr) (n cap:Nat):Sp Tryz.prog 116 [.slice A n cap] [] fun K=>∀b1,K (.returned (.func (.func 155) #[] #[pt b1])) [.blk b1 23 [.slice A n cap]]:=by refine Zen Tryz.func116 U U U fun e X Φ hS=>Zsr<|Ze (ebx U) fun b1=>Zw<|Zy U<|Zns<|Zv (yfn U U)<|Zy U<|Znl ?_;refine Zxr<|Zre (.t U .n) (hS _) [0] 0 U U U U
abbrev XD:List Value:=[.int .i64 1,.int .i64 1,.int .i64 2,.int .i64 2,.int .i64 3,.int .i64 3,.int .i64 4,.int .i64 5]
theorem fA:Sp Tryz.prog 156 [] [] fun K=>K (.returned (.agg XD.toArray)) []:=by refine Zen Tryz.func156 U U U fun e X Φ hS=>Zsr<|Ze (eal dU) fun b0=>Zw<|Zns<|Zv (yb jP U)<|Ze (esw 0 (m:=8) U U U U U U U)<|Zw0<|Zn ?_;refine Zrt<|Zre (.wh 0 (m:=8) U U U .n) hS [] 1 U U U U
def SX (k:Nat):Int:=[1,1,2,2,3,3,4,5].getD k 0
theorem XE {k:Nat} (h:k<8):nth XD k=some (.int .i64 (SX k)):=by
 obtain rfl|rfl|rfl|rfl|rfl|rfl|rfl|rfl:k=0∨k=1∨k=2∨k=3∨k=4∨k=5∨k=6∨k=7:=by omega
 all_goals rfl
def FZ (raw:List Int) (j:Nat):Cho:=⟨SX ((raw.getD (2*j) 0).toNat%8),(((raw.getD (2*j) 0).toNat/8%4:Nat):Int),if 2*j+1<raw.length then raw.getD (2*j+1) 0 else 0⟩
def B5 (raw:List Int):List Cho:=(List.range ((raw.length+1)/2)).map (FZ raw)
theorem PP {α β:Type} (f:α→β) {a b:List α} (h:a <+: b):a.map f <+: b.map f:=by obtain⟨c,rfl⟩:=h;rw[List.map_append];exact List.prefix_append _ _
theorem dZ {b:Int} (h:0≤b∧b<256):IntKind.u8.wrap ((BitVec.ofInt IntKind.u8.bits b &&& BitVec.ofInt IntKind.u8.bits 7).toNat:Int)=((b.toNat%8:Nat):Int):=by
 have hk:∀k:_root_.Fin 256,IntKind.u8.wrap ((BitVec.ofInt IntKind.u8.bits (k.1:Int) &&& BitVec.ofInt IntKind.u8.bits 7).toNat:Int)=((k.1%8:Nat):Int):=by decide+kernel
 have:=hk ⟨b.toNat,by omega⟩;rwa[show((b.toNat:Nat):Int)=b by omega] at this
theorem kT {b:Int} (h:0≤b∧b<256):(IntKind.i64.wrap (b.fdiv (2 ^ min (Int.toNat 3) IntKind.u8.bits))).tmod 4=((b.toNat/8%4:Nat):Int):=by
 have hk:∀k:_root_.Fin 256,(IntKind.i64.wrap (Int.fdiv (k.1:Int) (2 ^ min (Int.toNat 3) IntKind.u8.bits))).tmod 4=((k.1/8%4:Nat):Int):=by decide+kernel
 have:=hk ⟨b.toNat,by omega⟩;rwa[show((b.toNat:Nat):Int)=b by omega] at this
theorem Wo {raw:List Int} {x:Nat} {p:Int} (h:0≤raw.getD (2*x+0) 0∧raw.getD (2*x+0) 0<256) (hp:p=if 2*x+1<raw.length then raw.getD (2*x+1) 0 else 0):Value.agg #[.int .i64 (SX ((raw.getD (2*x+0) 0).toNat%8)),.int .i64 ((IntKind.i64.wrap ((raw.getD (2*x+0) 0).fdiv (2 ^ min (Int.toNat 3) IntKind.u8.bits))).tmod 4),.int .i64 p] = .agg (N8.arr (FZ raw x)):=by rw[kT h,hp];rfl
theorem Yh {pre:List Nat} {x N:Nat} (h:pre++[x] <+: List.range N):pre=List.range x∧x<N:=by
 obtain⟨r,hr⟩:=h;have hl:pre.length<N:=by have:=congrArg List.length hr;simp at this;omega
 have hx:x=pre.length:=by
  have h1:(pre++[x]++r)[pre.length]? = (List.range N)[pre.length]? := by rw[hr]
  rw[List.append_assoc,List.getElem?_append_right (Nat.le_refl _),Nat.sub_self,List.getElem?_range hl] at h1;exact Option.some.inj h1
 refine⟨?_,by omega⟩;have h2:(pre++([x]++r)).take pre.length=(List.range N).take pre.length:=by rw[←List.append_assoc,hr]
 rw[List.take_left,List.take_range,Nat.min_eq_left (by omega)] at h2;rw[h2,hx]
theorem kI (b1 cap:Nat) (A:Option Addr) (c:Ck) (raw:List Int) (hR:Rd u8E c A cap raw) (hn:raw.length≤cap) (hc:raw.length≤1048576) (hb:∀a∈raw,0≤a∧a<256):SqK Tryz.prog 155 [pt b1] (fun _=>[c]) [.blk b1 23 [.slice A raw.length cap]] (fun _=>[]) (fun x vs=>vs=[.agg (N8.arr x)]) (B5 raw):=by
 refine⟨fun y J Jx F2 hJ hJ' hYd=>?_⟩;have jop:∀pre,Op_ (J pre) fun K=>K [c,.hp (F2 pre)]:=fun pre => .mk fun G k h hh=>⟨_,k,hJ pre h hh⟩
 have jfo:∀pre h,Sep [c,.hp (F2 pre)] h→J pre h:=hJ';refine J2 Tryz.func155 U U U fun e X Φ hS=>Zsr<|Ze (ebx U) fun b2=>Zw<|Zns<|Zk (fA ..) [] U U<|Zq<|Ze (eal dU) fun b3=>Zw<|Ze (esw 0 (m:=8) U U U U U U U)<|Zw0 ?_;refine Zns<|Zv (yd 3 U U U)<|Zk (fB ..) [] U U<|fun b1_1=>fun b2_1=>Zq<|Zn ?_;refine Zbl ?_
 refine Zrf (kK b1_1 b2_1 raw.length cap A hn hc) (fun pre=>[.hp (J (pre.map (FZ raw))),.blk b3 274 XD,.blk b2 100 (cl (Value.func (.yield y) #[] #[]))]) (fun _=>True) (fun pre=>[.hp (Jx (pre.map (FZ raw)))]) (fun _=>True) (fun _ _=>[]) (fun _ _=>False) [0,0,2,0,0] U U trivial (fun e' l pre x F hx hn=>?_) (fun D hn=>?_) (fun D pre hx hp=>?_) (fun D id pre hx hp=>hp.elim) (fun _=>U) (by decide);refine Zrg<|Zy U<|Znl<|Zak 3 U fun F'=>Zbl<|Zsq ?_;rotate_left;refine Zxn<|dX<|Zmk 0 U ?_;rotate_left;refine Zrt<|Zr2<|Zmk 0 U ?_;rotate_left
 ·obtain⟨hpe,hxN⟩:=Yh hx;have hcp:pre.map (FZ raw)++[FZ raw x] <+: B5 raw:=by have:=PP (FZ raw) hx;rwa[List.map_append] at this
  have hpm:pre.map (FZ raw)++[FZ raw x]=(pre++[x]).map (FZ raw):=by rw[List.map_append];rfl
  have hm:∃m,m=min 2 (raw.length-2*x):=⟨_,rfl⟩
  obtain⟨m,hm⟩:=hm;rw[←hm];have hm0:0<m:=by omega
  have hm2:2*x+m≤raw.length:=by omega
  have hR2:Rd u8E c (CQ A (2*x+m) (2*x) 1) (2*x+m-2*x) ((raw.take (2*x+m)).drop (2*x)):=hR.cut hm2 (by omega);have hsl:((raw.take (2*x+m)).drop (2*x)).length=m:=by rw[List.length_drop,List.length_take];omega
  rw[show 2*x+m-2*x=m by omega] at hR2;have hs:∀i,i<m→((raw.take (2*x+m)).drop (2*x))[i]? = some (raw.getD (2*x+i) 0):=fun i hi=>by rw[List.getElem?_drop,List.getElem?_take_of_lt (by omega),List.getD_eq_getElem?_getD,gE (show 2*x+i<raw.length by omega)];rfl
  have h0:0<((raw.take (2*x+m)).drop (2*x)).length:=by omega
  refine Zoc 0 (jop (pre.map (FZ raw))) U<|Zhe 14 U<|Zht 0 U (ym U)<|Zht 6 U (ym U) ?_;refine Zht 1 U (yea (j:=0) 0 hR2 U U U h0 hsl.symm Tryz.underlying23 U)<|Zht 2 U (yec (m:=0) 0 hR2 U (hs 0 hm0) U U U)<|Zht 3 U (Fc U U U) ?_;have hb0:0≤raw.getD (2*x+0) 0∧raw.getD (2*x+0) 0<256:=hb _ (by rw[List.getD_eq_getElem?_getD,gE (show 2*x+0<raw.length by omega)];exact List.getElem_mem _)
  refine Zht 4 U (yai (i:=(raw.getD (2*x+0) 0).toNat%8) Tryz.underlying274 U (congrArg some (congrArg (Value.int .u8) (dZ hb0))) (Nat.mod_lt _ (by decide)) U)<|Zht 5 U (yd 2 U U (by rw[Nat.zero_add];exact XE (Nat.mod_lt _ (by decide)))) ?_
  refine Zht 7 U (yea (j:=0) 0 hR2 U U U h0 hsl.symm Tryz.underlying23 U)<|Zht 8 U (yec (m:=0) 0 hR2 U (hs 0 hm0) U U U)<|Zht 9 U (Mh U U (by decide) U)<|Zht 10 U (ycv Tryz.underlying5 Tryz.underlying3 U U)<|Zht 11 U (Cc U U (by decide) U)<|Zht 12 U (yb l71 U)<|ZH1 13<|Zoe U (eal z71) fun b5=>Zwh 1 U<|ZHn<|Ztl U<|Zte (esw 0 (m:=3) U U U U U U U)<|Ztw<|Ztn ?_;refine Zxq<|Zsr<|Zm U<|Zv (Aw ⟨_,Tryz.underlying23⟩ U)<|Zv (ygt U U)<|Zn<|Zif U (fun h25=>?_) (fun h25=>?_);refine Zrg<|Zm U ?_;rotate_left;refine Zks<|Zv (yd 4 U U U)<|Zv (ydw 0 (m:=3) U U U) ?_;rotate_left
  ·have h1m:1<((raw.take (2*x+m)).drop (2*x)).length:=by omega
   refine Zv (yea (j:=1) 1 hR2 U U U h1m hsl.symm Tryz.underlying23 U)<|Zv (yec (m:=0) 1 hR2 U (hs 1 (by omega)) U U U)<|Zv (ycv Tryz.underlying5 Tryz.underlying3 U U)<|Zv (yf 2 U)<|Ze (es 0 U U U U U)<|Zw0<|Zns<|Zv (yd 4 U U U)<|Zv (ydw 0 (m:=3) U U U) ?_;have hb1:0≤raw.getD (2*x+1) 0∧raw.getD (2*x+1) 0<256:=hb _ (by rw[List.getD_eq_getElem?_getD,gE (show 2*x+1<raw.length by omega)];exact List.getElem_mem _);have hv:=Wo (raw:=raw) (x:=x) (p:=IntKind.i64.wrap (raw.getD (2*x+1) 0)) hb0 (by rw[if_pos (show 2*x+1<raw.length by omega)];exact Ar rfl (by omega))
   refine Zfl [1,1] (jfo (pre.map (FZ raw))) U ?_;refine Zyr (hYd _ _ hcp _ U) 0 U (congrArg (fun v=>some [v]) hv) U ?_ ?_;refine Zv (BM U)<|Zn<|Zcf U<|Zsk<|Zxn ?_;rotate_left;refine Zv (BM U)<|Zn<|Zct U<|Zrt<|Zr2 ?_;rotate_left
   ·rw[hpm];refine Zrn trivial [0,1,1] 1 U U
   ·rw[hpm];refine Zrr trivial [0] 3 U U
  ·have hv:=Wo (raw:=raw) (x:=x) (p:=0) hb0 (by rw[if_neg (show¬2*x+1<raw.length by omega)]);refine Zfl [1,1] (jfo (pre.map (FZ raw))) U ?_;refine Zyr (hYd _ _ hcp _ U) 0 U (congrArg (fun v=>some [v]) hv) U ?_ ?_;refine Zv (BM U)<|Zn<|Zcf U<|Zsk<|Zxn ?_;rotate_left;refine Zv (BM U)<|Zn<|Zct U<|Zrt<|Zr2 ?_;rotate_left
   ·rw[hpm];refine Zrn trivial [0,1,1] 1 U U
   ·rw[hpm];refine Zrr trivial [0] 3 U U
 ·rw[show(List.range ((raw.length+1)/2)).map (FZ raw)=B5 raw from rfl];refine Zre .n hS.1 [0] 3 U U U U
 ·refine Zre .n (hS.2 _ (PP (FZ raw) hx)) [0] 1 U U U U
theorem eH (c:Ck) (x:Wld) (h:x.In c):Sp Tryz.prog 115 [.agg x.cells.toArray] [c] fun K=>(x.ok=true→∀b bi,K (.returned (.tuple #[pt b,.int .i64 0])) [.hp (A4 0 b x.m),.hp (Bx bi x.bs),c])∧(x.ok=false→K (.returned (.tuple #[.pointer none,.int .i64 2])) [c]):=by
 have hb:=h.b;refine Zen Tryz.func115 U U U fun e X Φ hS=>Zsr<|Ze (ebx U) fun b1=>Zw<|Zb 2 U<|Zns<|Za 2 [1,0] U U ?_;refine Zk (c31 c x.B x.capb x.bs hb) [1] U U<|⟨?_,?_⟩
 refine fun a=>Zq<|Zv (ym rfl)<|Zv (yx rfl rfl)<|Zv (yx rfl rfl)<|Zv (ya rfl)<|Zv (ya rfl)<|Znl<|Znx<|Zsq ?_;refine Zsr<|Zb 2 U<|Zn<|Zct U<|Zsr<|Zb 2 U<|Znl ?_;refine Zxr<|Zr1 ?_;rotate_left;refine fun a=>fun b=>Zq<|Zv (ym rfl)<|Zv (yx rfl rfl)<|Zv (yx rfl rfl)<|Zv (ya rfl)<|Zv (ya rfl)<|Znl<|Znx ?_;refine Zsq<|Zsr<|Zb 2 U<|Zn<|Zcf U<|Zks ?_;refine Za 7 [0,2,2,2,3,2] U U ?_;rotate_left
 ·refine Zre (.t U (.t U .n)) (hS.2 (by unfold Wld.ok;rw[a];rfl)) [0] 1 U U U U
 ·refine Zk (c32 c x.A x.cap x.l b x.bs x.sets x.ways h.cds a h.r) [0,0] U U<|⟨?_,?_⟩
  refine fun a_1=>fun b_1=>Zq<|Zv (ym rfl)<|Zv (yx rfl rfl)<|Zv (yx rfl rfl)<|Zv (ya rfl)<|Zv (ya rfl)<|Znl<|Znx ?_;refine Zsq<|Zsr<|Zb 2 U<|Zn<|Zcf U<|Zks ?_;refine Zb 3 U<|Znr ?_;rotate_left;refine fun a_1=>Zq<|Zv (ym rfl)<|Zv (yx rfl rfl)<|Zv (yx rfl rfl)<|Zv (ya rfl)<|Zv (ya rfl)<|Znl<|Znx<|Zsq ?_;refine Zsr<|Zb 2 U<|Zn<|Zct U<|Zsr<|Zb 2 U<|Znl ?_;refine Zxr<|Zr1 ?_;rotate_left
  ·refine Zre (.t U (.t U .n)) (hS.1 (by unfold Wld.ok;rw[a,a_1];rfl) _ _) [0,0,0] 1 U U U U
  ·refine Zre (.t U (.t U .n)) (hS.2 (by unfold Wld.ok;rw[a,a_1];rfl)) [1] 2 U U U U
structure PrP (P:MD→Prop):Prop where
 n:∀m,P m→∀y∈m.q,y.dst=4∨(0≤y.dst∧y.dst<(m.C.length:Int))
 f:∀m,P m→m.Few 900
 s:∀m x,P m→Gn x=true→Kf x→P (AV (Bg m x).1)
theorem Zp {p q:HP} (a:Arg p q) {P:MD→Prop} (hP:PrP P) (b:Nat) (m:MD) (x:Cho) (hm:P m) (h:Gn x=true) (hx:Kf x):Sp Tryz.prog 16 [pt b,.agg (N8.arr x)] [.hp (A4 900 b m),.hp p] fun K=>K (.returned (.tuple #[.agg (Cg.arr (Bg m x).2),.int .i64 0])) [.hp (A4 900 b (AV (Bg m x).1)),.hp p]:=by
 have h':=h;unfold Gn at h';simp only[Bool.and_eq_true,decide_eq_true_eq] at h';exact⟨fun e X w Φ hp hS=>(fG 900 b m x (by omega) h'.1 h'.2 hx.p hx.h (hP.n m hm)).run e (.hp q::X) w Φ (hp.imp fun _ hs=>hs.mapTl fun _ hs=>a.un hs) fun w' hw=>hS w' (hw.imp fun _ hs=>(hs.hd (q := .hp (A4 900 b (AV (Bg m x).1))) fun _ hh=>KF (hP.f _ (hP.s m x hm h hx)) _ (BN hh)).mapTl fun _ hs=>a.re hs)⟩
def Q7 (br b:Nat) (s:MD × List Did):HP:=fun h=>∃A cap,Sep [.blk br 174 [pt b,.slice A s.2.length cap],.hp (own Cg A cap s.2),.hp (A4 900 b s.1)] h
theorem OM {br b:Nat} {s:MD × List Did}:Op_ (Q7 br b s) fun K=>∀A cap,K [.blk br 174 [pt b,.slice A s.2.length cap],.hp (own Cg A cap s.2),.hp (A4 900 b s.1)] := .mk fun G k h hh=>by obtain⟨A,cap,hs⟩:=hh;exact⟨_,k A cap,hs⟩
theorem D3 {br b cap:Nat} {A:Option Addr} {s:MD × List Did}:∀h,Sep [.blk br 174 [pt b,.slice A s.2.length cap],.hp (own Cg A cap s.2),.hp (A4 900 b s.1)] h→Q7 br b s h:=fun _ hs=>⟨A,cap,hs⟩
theorem Pn {raw:List Int} (hb:∀a∈raw,0≤a∧a<256) {x:Cho} (h:x∈B5 raw):Gn x=true∧Kf x:=by
 obtain⟨j,_,rfl⟩:=List.mem_map.1 h
 have hg:∀i,0≤raw.getD i 0∧raw.getD i 0<256:=fun i=>by
  rw[List.getD_eq_getElem?_getD];cases hi:raw[i]? with
  | none=>exact⟨by decide,by decide⟩
  | some b=>exact hb b (List.mem_of_getElem? hi)
 have hk:∀k:Nat,k<8→1≤SX k∧SX k≤5:=by decide
 have h1:=hk ((raw.getD (2*j) 0).toNat%8) (Nat.mod_lt _ (by decide));have h2:=hg (2*j+1);refine⟨?_,?_,?_⟩
 ·unfold Gn FZ;simp only[Bool.and_eq_true,decide_eq_true_eq];exact h1
 ·show -9223372036854775808≤(((raw.getD (2*j) 0).toNat/8%4:Nat):Int)∧(((raw.getD (2*j) 0).toNat/8%4:Nat):Int)≤9223372036854775807;omega
 ·show -9223372036854775808≤(if 2*j+1<raw.length then raw.getD (2*j+1) 0 else 0)∧(if 2*j+1<raw.length then raw.getD (2*j+1) 0 else 0)≤9223372036854775807;split<;>omega
theorem PU {α:Type} {pre xs:List α} {x:α} (h:pre++[x] <+: xs):x∈xs:=by obtain⟨r,rfl⟩:=h;simp
theorem IK (m:MD) (pre:List Cho) (x:Cho):AP m (pre++[x])=J9 (AP m pre) x:=by unfold AP;rw[List.foldl_append];rfl
theorem c66 {p q:HP} (ap:Arg p q) (x:Wld) (hx:x.In (.hp p)) (C:Option Addr) (capc:Nat) (raw:List Int) (hR:Rd u8E (.hp p) C capc raw) (hc1:raw.length≤capc) (hc2:raw.length≤1048576) (hb:∀a∈raw,0≤a∧a<256) {P:MD→Prop} (hP:PrP P) (h0:x.ok=true→P x.m):Sp Tryz.prog 66 [.agg x.cells.toArray,.slice C raw.length capc] [.hp p] fun K=>(x.ok=true→∀br b,K (.returned (.tuple #[pt br,.int .i64 0])) [.hp (Q7 br b (AP x.m (B5 raw))),.hp p])∧(x.ok=false→K (.returned (.tuple #[.pointer none,.int .i64 2])) [.hp p]):=by
 refine J2 Tryz.func66 U U U fun e X Φ hS=>Zsr<|Ze (ebx U) fun b2=>Zw<|Zb 2 U<|Zns<|Zv (ydw 0 (m:=4) U U U) ?_;refine Zk (eH (.hp p) x hx) [1] U U<|⟨?_,?_⟩
 refine fun a=>fun b=>fun bi=>Zq<|Zv (ym rfl)<|Zv (yx rfl rfl)<|Zv (yx rfl rfl)<|Zv (ya rfl)<|Zv (ya rfl)<|Znl ?_;refine Zxq<|Zsr<|Zb 2 U<|Zn<|Zcf U<|Zkn ?_;refine Zsr<|Zm U<|Zv (yb jM U)<|Ze (ebx U) fun b22=>Zw<|Ze (eal lJ) fun b8=>Zw<|Ze (es 0 U U U U U)<|Zw0<|Aj ?_;refine Zm U<|Zk (eI ..) [] U U<|fun b1=>Zq<|Znb ?_;rotate_left;refine fun a=>Zq<|Zv (ym rfl)<|Zv (yx rfl rfl)<|Zv (yx rfl rfl)<|Zv (ya rfl)<|Zv (ya rfl)<|Znl<|Znx<|Zsq ?_;refine Zsr<|Zb 2 U<|Zn<|Zct U<|Zsr<|Zb 3 U ?_;refine Znr<|Zr1 ?_;rotate_left
 ·refine Zic (fun _ hs=>Ag (E:=Cg) hs) ?_;refine Zfc [4] (KF (k:=0) (hP.f _ (h0 a))) U ?_;refine Zfc [4,1,0] (D3 (br:=b22) (b:=b) (s:=(x.m,[]))) U ?_;refine Zrk (kI b1 capc C (.hp p) raw hR hc1 hc2 hb) (fun pre=>[.hp p,.hp (Q7 b22 b (AP x.m pre)),.blk b8 170 [pt b22]]) (fun pre=>P (AP x.m pre).1) (fun _=>[]) (fun _=>False) (fun _ _=>[]) (fun _ _=>False) [1,3,0,0] U U (fun _=>U) (h0 a) (fun e' l pre y vs F hxp hv hn=>?_) (fun D hn=>?_) (fun _ _ _ h=>h.elim) (fun _ _ _ _ h=>h.elim) (fun _ vs h=>by rw[h];rfl) (by decide);refine Zrg<|Ze (eal z71) fun b9=>Zw ?_
  rotate_left;refine Zxn<|Zxs<|Za 3 [3] U U<|Znr<|Zmk 0 U ?_;rotate_left
  ·subst hv;obtain⟨hrc,hci⟩:=Pn hb (PU hxp);have hc16:=Zp ap hP b (AP x.m pre).1 y hn hrc hci;refine Ze (esw 0 (m:=3) U U U U U (Enc.len ..) (Enc.allL ..))<|Zw0<|Znl<|Zak 4 U fun F'=>Zbl ?_;refine Zoc 2 OM U<|fun A1 cap1=>Zsq ?_
   refine Zjm (ι:=Nat) (fun b10=>[(10,pt b10),(8,pt b8)]) (fun b10=>[.blk b10 53 (Cg.cells (Bg (AP x.m pre).1 y).2),.hp (A4 900 b (AV (Bg (AP x.m pre).1 y).1)),.hp p]) (.blk b22 174 [pt b,.slice A1 (AP x.m pre).2.length cap1] :: .hp (own Cg A1 cap1 (AP x.m pre).2) :: .blk b9 71 (N8.cells y) :: .blk b8 170 [pt b22]::F') ?_ fun b10=>?_;rotate_left;refine Zsr<|Za 3 [0,0] U U<|Zn<|Zif U (fun h37=>?_) (fun h37=>?_);rotate_left;refine Zsk<|Zxn ?_;rotate_left
   ·refine Zhd [2,3] U U<|Zht 0 U (yd 3 U U U)<|Zht 1 U (yn U)<|Zht 2 U (yf 0 U)<|Zht 3 U (yd 0 U U U)<|Zht 4 U (ydw 2 (m:=3) U U (Enc.len ..)) ?_;refine ZH2 5 9 (Zok hc16 [0,0] U U U<|Zqh 2 U ?_) (Zoe U (eal z53) fun b10=>Zwh 3 U ?_);refine Zht 6 U (ym U)<|Zht 7 U (yx U U)<|Zht 8 U (yx U U)<|ZH1 9<|Zoe U (eal z53) fun b10=>Zwh 3 U<|ZH1 10<|Zoe U (esw 0 (m:=20) U U U U U (Enc.len ..) (Enc.allL ..))<|Ay 3 U<|Zht 11 U (ya U)<|ZHn ?_;rotate_left;rotate_left
    ·refine Zjr b10 ⟨U,U,trivial⟩ [0,0,0] 0 U U
    ·refine ZH1 5<|Zok hc16 [1,1] U U U<|Zqh 3 U<|Zht 6 U (ym U)<|Zht 7 U (yx U U)<|Zht 8 U (yx U U)<|ZH1 10<|Zoe U (esw 2 (m:=20) U U U U U (Enc.len ..) (Enc.allL ..))<|Ay 3 U<|Zht 11 U (ya U)<|ZHn ?_;refine Zjr b10 ⟨U,U,trivial⟩ [2,0,0] 0 U U
   ·have hdl:=LR x.m pre;have hpl:pre.length<(B5 raw).length:=E4 hxp;have hcl:(B5 raw).length≤524288:=by unfold B5;rw[List.length_map,List.length_range];omega
    have hm1:(AP x.m pre).2.length+1≤maxLen:=Nat.le_trans (show _≤1048576 by omega) (by decide);have er:AP x.m (pre++[y])=(AV (Bg (AP x.m pre).1 y).1,(AP x.m pre).2++[(Bg (AP x.m pre).1 y).2]):=(IK _ _ _).trans (congrArg (Prod.mk _) (if_pos h37));refine Zhd [4,3] U U<|Zht 0 U (yd 4 U U U)<|Zht 1 U (yd 4 U U U)<|Zht 2 U (yn U)<|Zht 3 U (yf 1 U)<|Zht 5 U (ydw 0 (m:=20) U U (Enc.len ..))<|ZH2 4 6 (Zov U (yd 1 U U U) ?_) (Zoe U (eb1 Jj (by decide) U) fun A44=>Zwh 3 U ?_);refine ZH1 6<|Zoe U (eb1 Jj (by decide) U) fun A44=>Zwh 3 U ?_;rotate_left
    refine ZH1 4<|Zov U (yd 2 U U U) ?_;rotate_left
    ·refine ZH1 7<|Zoe U (Dp 1 0 Jj U U U own.rd U U U (fun _ _=>U) (by simp;omega) hm1)<|fun A' cap'=>Zwh 3 U<|Zht 8 U (yn U)<|Zht 9 U (yf 1 U)<|ZH1 10<|Zoe U (es 2 U U U U U)<|Ay 3 U<|ZHn<|Zxn ?_;refine Zfx [2,1,2] (D3 (br:=b22) (b:=b) (s:=(AV (Bg (AP x.m pre).1 y).1,(AP x.m pre).2++[(Bg (AP x.m pre).1 y).2]))) U ?_;rw[←er];refine Zrn (by rw[er];exact hP.s _ _ hn hrc hci) [3,0,3] 3 U U
    ·refine ZH1 7<|Zoe U (Dp 1 0 Jj U U U own.rd U U U (fun _ _=>U) (by simp;omega) hm1)<|fun A' cap'=>Zwh 3 U<|Zht 8 U (yn U)<|Zht 9 U (yf 1 U)<|ZH1 10<|Zoe U (es 2 U U U U U)<|Ay 3 U<|ZHn<|Zxn ?_;refine Zfx [2,1,2] (D3 (br:=b22) (b:=b) (s:=(AV (Bg (AP x.m pre).1 y).1,(AP x.m pre).2++[(Bg (AP x.m pre).1 y).2]))) U ?_;rw[←er];refine Zrn (by rw[er];exact hP.s _ _ hn hrc hci) [3,0,3] 3 U U
   ·have er:AP x.m (pre++[y])=(AV (Bg (AP x.m pre).1 y).1,(AP x.m pre).2):=(IK _ _ _).trans (congrArg (Prod.mk _) (if_neg h37));refine Zfx [3,3,1] (D3 (br:=b22) (b:=b) (s:=(AV (Bg (AP x.m pre).1 y).1,(AP x.m pre).2))) U ?_;rw[←er];refine Zrn (by rw[er];exact hP.s _ _ hn hrc hci) [2,0,2] 2 U U
  ·refine Zre (.t U (.t U .n)) (hS.1 a _ _) [1,0] 3 U U U U
 ·refine Zre (.t U (.t U .n)) (hS.2 a) [0] 1 U U U U
theorem eL (k b:Nat) (m:MD):Sp Tryz.prog 120 [pt b] [.hp (A4 k b m)] fun K=>∀b1 b2,K (.returned (.func (.func 159) #[] #[pt b1,pt b2])) [.blk b1 27 [pt b],.blk b2 3 [.int .i64 (m.q.length:Int)],.hp (A4 k b m)]:=by refine Zen Tryz.func120 U U U fun e X Φ hS=>Zsr<|Ze (ebx U) fun b1=>Zw<|Zy U<|Zns<|Zv (yd 0 U U U)<|Zk (c43 ..) [1] U U<|fun A=>?_;refine fun cap=>Zq<|Zv (Aw ⟨_,Tryz.underlying112⟩ rfl)<|Ze (eal z3) fun b3=>Zw<|Ze (es 0 rfl rfl rfl rfl rfl)<|Zw0<|Znl<|Znx<|Zsr<|Zv (yfn rfl rfl)<|Zv (ya rfl) ?_;refine Znr<|Zre (.t U .n) (hS _ _) [3,0,1] 1 U U U U
def CX (i:Nat):List Cho:=(List.range i).flatMap fun j:Nat=>[⟨1,(j:Int),0⟩,⟨2,(j:Int),0⟩]
def Dt (n k:Nat):List Cho:=CX n++List.replicate k ⟨3,0,0⟩
theorem GL (i:Nat):CX (i+1)=CX i++[⟨1,(i:Int),0⟩,⟨2,(i:Int),0⟩]:=by unfold CX;rw[List.range_succ,List.flatMap_append];rfl
theorem QI {i n:Nat} (h:i≤n):CX i <+: CX n:=by unfold CX;rw[show n=i+(n-i) by omega,List.range_add,List.flatMap_append];exact List.prefix_append _ _
def H5 (i j:Nat):List Cho:=CX i++([⟨1,(i:Int),0⟩,⟨2,(i:Int),0⟩]:List Cho).take j
theorem Vk (i:Nat):H5 i 0=CX i:=List.append_nil _
theorem Vl (i:Nat):H5 i 2=CX (i+1):=(GL i).symm
theorem PF {i j:Nat} (h:j<2):H5 i j++[⟨(j:Int)+1,(i:Int),0⟩]=H5 i (j+1):=by
 unfold H5;rw[List.append_assoc];obtain rfl|rfl:j=0∨j=1:=by omega
 ·rfl
 ·rfl
theorem Ky {i j n k:Nat} (hi:i<n) (h:j<2):H5 i j++[⟨(j:Int)+1,(i:Int),0⟩] <+: Dt n k:=by rw[PF h];refine List.IsPrefix.trans ?_ (List.prefix_append (CX n) _);refine List.IsPrefix.trans ?_ (QI (i:=i+1) hi);rw[GL];unfold H5;rw[List.prefix_append_right_inj];exact List.take_prefix _ _
theorem P0 {n k i:Nat} (h:i<k):(CX n++List.replicate i ⟨3,0,0⟩)++[⟨3,0,0⟩] <+: Dt n k:=by unfold Dt;rw[List.append_assoc,List.prefix_append_right_inj];refine⟨List.replicate (k-i-1) ⟨3,0,0⟩,?_⟩;show List.replicate i _++List.replicate 1 _++List.replicate _ _=_;rw[List.replicate_append_replicate,List.replicate_append_replicate];congr 1;omega
theorem bZ {n i:Nat}:(CX n++List.replicate i (⟨3,0,0⟩:Cho))++[⟨3,0,0⟩]=CX n++List.replicate (i+1) ⟨3,0,0⟩:=by rw[List.append_assoc];congr 1;exact(List.replicate_succ' ..).symm
theorem YA {j:Nat} (h:j<2):nth [Value.int .i64 1,.int .i64 2] j=some (.int .i64 ((j:Int)+1)):=by
 obtain rfl|rfl:j=0∨j=1:=by omega
 ·rfl
 ·rfl
theorem kJ (b b1 b2 n k:Nat) (f:List Cho→MD) (h4:(f []).C.length=n) (h4':n≤4) (hk:k≤1024):SqK Tryz.prog 159 [pt b1,pt b2] (fun pre=>[.hp (A4 900 b (f pre))]) [.blk b1 27 [pt b],.blk b2 3 [.int .i64 (k:Int)]] (fun _=>[]) (fun x vs=>vs=[.agg (N8.arr x)]) (Dt n k):=by
 refine⟨fun y J Jx F2 hJ hJ' hYd=>?_⟩;have jop:∀pre,Op_ (J pre) fun K=>K [.hp (A4 900 b (f pre)),.hp (F2 pre)]:=fun pre => .mk fun G k h hh=>⟨_,k,hJ pre h hh⟩
 have jfo:∀pre h,Sep [.hp (A4 900 b (f pre)),.hp (F2 pre)] h→J pre h:=hJ';refine Zen Tryz.func159 U U U fun e X Φ hS=>Zoc 0 (jop []) U<|Zsq<|Zsr<|Zv (yd 2 U U U)<|Zk (c15 ..) [0] U U<|fun A=>fun cap=>Zq<|Zv (Aw ⟨_,Tryz.underlying65⟩ U)<|Zm U ?_;refine Zn ?_;refine Zfc [1,1] (jfo []) U<|Zbl ?_;rw[List.length_map,h4]
 refine Zlq (ι:={ i:Nat // i≤n }) (fun i=>[(10,.int .i64 (i.1:Int)),(9,.int .i64 (n:Int)),(0,.func (.yield y) #[] #[]),(2,pt b2)]) (fun i=>[.hp (J (CX i.1)),.blk b2 3 [.int .i64 (k:Int)]]) (fun i=>n-i.1) ⟨0,Nat.zero_le _⟩ ⟨U,U,U,U,trivial⟩ [0,2] U fun i=>Zsr<|Zv (ylt U U)<|Znq<|Zif U (fun h11=>?_) (fun h11=>?_);refine Zkn<|Zsq<|Zbl<|Zsr<|Zb 2 U<|Zns ?_;refine Zv (yb jQ U)<|Zm U<|Znb ?_;rotate_left;refine Zex<|Zxt<|Zxt<|Zxx<|Zxs<|Za 2 [1] U U<|Zn ?_;refine Zbl ?_;rotate_left
 ·have hlt:i.1<n:=by omega
  refine Zlq (ι:={ j:Nat // j≤2 }) (fun j=>[(14,.int .i64 (j.1:Int)),(13,.agg #[.int .i64 1,.int .i64 2]),(4,.int .i64 (i.1:Int)),(10,.int .i64 (i.1:Int)),(9,.int .i64 (n:Int)),(0,.func (.yield y) #[] #[]),(2,pt b2)]) (fun j=>[.hp (J (H5 i.1 j.1))]) (fun j=>2-j.1) ⟨0,Nat.zero_le _⟩ ⟨U,U,U,U,U,U,U,trivial⟩ [0] (by rw[Vk];rfl) fun j=>Zsr<|Zv (ylt U U)<|Znq<|Zif U (fun h15=>?_) (fun h15=>?_);refine Zkn<|Zsq<|Zbl<|Zsr ?_;rotate_left;refine Zex<|Zxt<|Zxt<|Zxx<|Zxn<|Znx<|Zrg<|Zv (Ac U U (Ar U (by omega)))<|Zm U<|Znl ?_;rotate_left
  ·have hj:j.1<2:=by omega
   refine Zv (yix (vs:=[.int .i64 1,.int .i64 2]) (i:=j.1) U U (YA hj) Tryz.underlying281 (Nat.ble_eq_true_of_le hj))<|Zy U<|Zns<|Zb 3 U<|Zv (yb l71 U) ?_;refine Zyd (hYd _ _ (Ky (k:=k) hlt hj) _ U) 0 U U U ?_ ?_;refine Zv (BM U)<|Zn<|Zcf U<|Zsk<|Zxn<|Znx<|Zrg<|Zv (Ac U U (Ar U (by omega)))<|Zm U ?_;refine Znl ?_;rotate_left;refine Zv (BM U)<|Zn<|Zct U<|Zrt<|Zr2<|Zr1<|Zr1<|Zr2<|Zr2 ?_;refine Zr1<|Zr1<|Zr2<|Zr1 ?_;rotate_left
   ·rw[PF hj];refine Zlr ⟨j.1+1,hj⟩ (by show 2-(j.1+1)<2-j.1;omega) ⟨U,U,U,U,U,U,U,trivial⟩ [0] 0 U U
   ·refine Zre .n (hS.2 _ (Ky (k:=k) hlt hj)) [0] 3 U U U U
  ·rw[show j.1=2 by have:=j.2;omega,Vl];refine Zlr ⟨i.1+1,hlt⟩ (by show n-(i.1+1)<n-i.1;omega) ⟨U,U,U,U,trivial⟩ [0,0] 0 U U
 ·rw[show i.1=n by have:=i.2;omega];refine Zlq (ι:={ i:Nat // i≤k }) (fun i=>[(26,.int .i64 (i.1:Int)),(25,.int .i64 (k:Int)),(0,.func (.yield y) #[] #[])]) (fun i=>[.hp (J (CX n++List.replicate i.1 ⟨3,0,0⟩))]) (fun i=>k-i.1) ⟨0,Nat.zero_le _⟩ ⟨U,U,U,trivial⟩ [0] (by rw[show List.replicate 0 (⟨3,0,0⟩:Cho)=[] from rfl,List.append_nil];rfl) fun i=>Zsr<|Zv (ylt U U)<|Znq<|Zif U (fun h27=>?_) (fun h27=>?_);refine Zkn<|Zsq<|Zbl<|Zsr<|Zm U<|Zv (yb l71 U) ?_;rotate_left;refine Zex<|Zxt<|Zxt<|Zxx<|Zee ?_;rotate_left
  ·have hi:i.1<k:=by omega
   refine Zyd (hYd _ _ (P0 (n:=n) hi) _ U) 0 U U U ?_ ?_;refine Zv (BM U)<|Zn<|Zcf U<|Zsk<|Zxn<|Znx<|Zrg<|Zv (Ac U U (Ar U (by omega)))<|Zm U ?_;refine Znl ?_;rotate_left;refine Zv (BM U)<|Zn<|Zct U<|Zrt<|Zr2<|Zr1<|Zr1<|Zr2 ?_;rotate_left
   ·rw[bZ];refine Zlr ⟨i.1+1,hi⟩ (by show k-(i.1+1)<k-i.1;omega) ⟨U,U,U,trivial⟩ [0] 0 U U
   ·refine Zre .n (hS.2 _ (P0 hi)) [0] 3 U U U U
  ·rw[show i.1=k by have:=i.2;omega,show CX n++List.replicate k (⟨3,0,0⟩:Cho)=Dt n k from rfl];refine Zre .n hS.1 [0] 3 U U U U
def CC (m:MD):MD × List Did:=AP m (Dt m.C.length m.q.length)
theorem KT {n k:Nat} (h4:n≤4) {x:Cho} (h:x∈Dt n k):Gn x=true∧Kf x:=by
 rcases List.mem_append.1 h with h|h
 ·obtain⟨j,hj,hx⟩:=List.mem_flatMap.1 h;have hj:=List.mem_range.1 hj;simp only[List.mem_cons,List.not_mem_nil,or_false] at hx;rcases hx with rfl|rfl
  ·exact⟨rfl,⟨show(-9223372036854775808:Int)≤(j:Int) by omega,show(j:Int)≤9223372036854775807 by omega⟩,by show(-9223372036854775808:Int)≤0∧(0:Int)≤9223372036854775807;decide⟩
  ·exact⟨rfl,⟨show(-9223372036854775808:Int)≤(j:Int) by omega,show(j:Int)≤9223372036854775807 by omega⟩,by show(-9223372036854775808:Int)≤0∧(0:Int)≤9223372036854775807;decide⟩
 ·obtain rfl:=List.eq_of_mem_replicate h;exact⟨rfl,Xl (by decide)⟩
theorem c68 {p q:HP} (ap:Arg p q) {P:MD→Prop} (hP:PrP P) (b:Nat) (m:MD) (hm:P m):Sp Tryz.prog 68 [pt b] [.hp (A4 900 b m),.hp p] fun K=>∀A cap,K (.returned (.tuple #[.slice A (CC m).2.length cap,.int .i64 0])) [.hp (own Cg A cap (CC m).2),.hp (A4 900 b (CC m).1),.hp p]:=by
 refine J2 Tryz.func68 U U U fun e X Φ hS=>Zoc 0 PM U<|fun hok hhok=>Zsr<|Ze (ebx U) fun b1=>Zw<|Ze (eal z33) fun b2=>Zw<|Ze (eal z34) fun b3=>Zw<|Aj<|Zv (yd 2 U U U) ?_;refine Zk (c15 ..) [3] U U<|fun A=>fun cap=>Zq<|Zv (Aw ⟨_,Tryz.underlying65⟩ U)<|Zv (yeq U U)<|Zn<|Zif U (fun h11=>?_) (fun h11=>?_);refine Zsr<|Ze (es 3 U U U U U)<|Zw0<|Ze (es 2 U U U U U)<|Zw0<|Zn ?_;rotate_left;refine Zks<|Ze (eal z33) fun b4=>Zw<|Aj<|Zv (yd 5 U U U)<|Zk (eL ..) [2] U U ?_;refine fun b1_1=>fun b2_1=>Zq<|Znl<|Znx<|Zbl ?_;rotate_left
 ·exact absurd h11 (by rw[List.length_map];have:=hok.n0;omega)
 ·have hq1:m.q.length≤1024:=by have:=hok.q;have:=hok.m1;omega
  refine Zfc [3] (Jb (E:=Cg) (bo:=b4) (ts:=33)) U<|Zrk (kJ b b1_1 b2_1 m.C.length m.q.length (fun pre=>(AP m pre).1) U hok.n1 hq1) (fun pre=>[.hp (A4 900 b (AP m pre).1),.hp p,.hp (Km Cg b4 33 (AP m pre).2),.blk b1 27 [pt b]]) (fun pre=>P (AP m pre).1) (fun _=>[]) (fun _=>False) (fun _ _=>[]) (fun _ _=>False) [1,1,1,5,0,3] U U (fun _=>U) hm (fun e' l pre y vs F hxp hv hn=>?_) (fun D hn=>?_) (fun _ _ _ h=>h.elim) (fun _ _ _ _ h=>h.elim) (fun _ vs h=>by rw[h];rfl) (by decide);refine Zrg<|Ze (eal z71) fun b5=>Zw ?_;rotate_left;refine Zxn<|Zxs ?_;rotate_left
  ·subst hv;obtain⟨hrc,hci⟩:=KT hok.n1 (PU hxp);refine Ze (esw 0 (m:=3) U U U U U (Enc.len ..) (Enc.allL ..))<|Zw0<|Znl<|Zak 5 U fun F'=>Zbl<|Zsr<|Zv (yd 4 U U U)<|Zv (ydw 0 (m:=3) U U (Enc.len ..)) ?_;refine Zk (Zp ap hP b (AP m pre).1 y hn hrc hci) [1,1] U U<|Zq<|Zb 3 U<|Ze (eal z53) fun b6=>Zw<|Ze (esw 0 (m:=20) U U U U U (Enc.len ..) (Enc.allL ..))<|Zw0<|Zy U<|Zn ?_;refine Zsq<|Zsr<|Zb 2 U<|Zn<|Zcf U<|Zks ?_;refine Za 3 [0,0] U U<|Zn<|Zif U (fun h26=>?_) (fun h26=>?_);refine Zrg ?_;rotate_left;refine Zsk<|Zxn ?_;rotate_left
   ·have er:AP m (pre++[y])=(AV (Bg (AP m pre).1 y).1,(AP m pre).2++[(Bg (AP m pre).1 y).2]):=(IK _ _ _).trans (congrArg (Prod.mk _) (if_pos h26));have hdl:=LR m pre;have hpl:=E4 hxp
    have hrl:(Dt m.C.length m.q.length).length≤1048000:=by
     have e:∀i,(CX i).length=2*i:=fun i=>by
      induction i with
      | zero=>rfl
      | succ i ih=>rw[GL,List.length_append,ih];rfl
     unfold Dt;rw[List.length_append,List.length_replicate,e];have:=hok.n1;omega
    have hm1:(AP m pre).2.length+1≤maxLen:=Nat.le_trans (show _≤1048576 by omega) (by decide);refine Zol 4 FH U<|fun A2 cap2=>Zv (yd 0 U U U)<|Zv (ydw 2 (m:=20) U U (Enc.len ..))<|Ze (eb1 Jj (by decide) U) fun A29=>Zw ?_;refine Ze (Dp 2 0 Jj U U U own.rd U U U (fun _ _=>U) (by simp;omega) hm1)<|fun A' cap'=>Zw<|Ze (es 1 U U U U U)<|Zw0<|Znl<|Zxn ?_;refine Zfx [1,1] (Ht (bo:=b4) (ts:=33) (pre:=(AP m pre).2++[(Bg (AP m pre).1 y).2]) U) U ?_
    rw[←show(AP m (pre++[y])).1=AV (Bg (AP m pre).1 y).1 by rw[er],←show(AP m (pre++[y])).2=(AP m pre).2++[(Bg (AP m pre).1 y).2] by rw[er]];refine Zrn (by rw[er];exact hP.s _ _ hn hrc hci) [3,3,0,3] 3 U U
   ·have er:AP m (pre++[y])=(AV (Bg (AP m pre).1 y).1,(AP m pre).2):=(IK _ _ _).trans (congrArg (Prod.mk _) (if_neg h26));rw[←show(AP m (pre++[y])).1=AV (Bg (AP m pre).1 y).1 by rw[er],←show(AP m (pre++[y])).2=(AP m pre).2 by rw[er]];refine Zrn (by rw[er];exact hP.s _ _ hn hrc hci) [1,1,2,2] 2 U U
  ·refine Zol 3 FH U<|fun A2 cap2=>Zv (yd 0 U U U)<|Ze (es 8 U U U U U)<|Zw0<|Ze (es 7 U U U U U)<|Zw0<|Znr<|Zmk 2 U<|Zre (.c 7 U U U (.c 6 U U U .n)) (hS _ _) [1,1,1] 5 U U U U
def aK (P:Program) (t f off:Nat):Bool:=
 match P.underlying t with
 | some (.struct fs)=>(match fs[f]? with|some fd=>fd.offset == off && DK P fd.type|none=>false)
 | _=>false
theorem yfd {P:Program} {N:Nat × List Deferred} {T:Tb} {e:World} {L:List Ck} {x:Operand} {v:Value} {vs:List Value} {t f:Nat} {ty:_} {dd:_} {pos:_} {af:_} {g:_} (off:Nat) (h:evT T x=some (.agg vs.toArray)) (hc:nth vs off=some v) (hf:aK P t f off=true:=by kernel_rfl):Yl P N T e L ⟨dd,.field t x f,ty,pos,af,g⟩ v:=fun _ w fr _=>by
 rw[A7] at hc;unfold aK at hf;cases hu:P.underlying t with
 | none=>rw[hu] at hf;cases hf
 | some D=>
  rw[hu] at hf;cases D with
  | struct fs=>
   dsimp only at hf;cases h2:fs[f]? with
   | none=>rw[h2] at hf;cases hf
   | some fd=>
    rw[h2] at hf;simp only[Bool.and_eq_true,beq_iff_eq] at hf;obtain⟨rfl,hp⟩:=hf
    have hpart:(part fd.type vs.toArray fd.offset).run P w = .ok v w:=by
     unfold DK at hp;unfold part isAgg;cases hd:P.underlying fd.type with
     | none=>rw[hd] at hp;cases hp
     | some D=>
      rw[hd] at hp;rw[Sem.run_bind,Sem.run_bind,run_underlying hd w];cases D<;>simp_all
    simp[execOp,fr.evT h,Instr.field,asAgg,run_underlying hu,h2,hpart]
  | _=>cases hf
def Cz (c:Cor):Bool:=decide (c.h.cause=0) || decide (0<(c.B.length:Int))
theorem eK (k b:Nat) (c:Cor):Sp Tryz.prog 119 [pt b] [.hp (Br k b c)] fun K=>K (.returned (.bool (Cz c))) [.hp (Br k b c)]:=by
 refine Zen Tryz.func119 U U U fun e X Φ hS=>Zsr<|Zy U<|Zns<|Zm U<|Zk (c49 ..) [0] U U<|Zq ?_;refine Zv (yfd 34 U (EG _))<|Zb 2 U<|Zgs U U (fun h7=>?_) (fun h7=>?_);refine Zu' U U (dT h7) U<|Zu' U U (dT h7) U<|Zu' U U (dT h7) U<|Zu' U U (dT h7) U<|Zv (Ax U (dT h7) U)<|Zy U<|Znr<|Zre (.t U .n) hS [0] 0 ?_ U U U;rotate_left;refine Zg' U U (dF h7)<|Zm U<|Zg' U U (dF h7)<|Zk (c19 ..) [0] U U<|fun A=>fun cap=>Zq<|Zg' U U (dF h7)<|Zv (Aw ⟨_,Tryz.underlying73⟩ U)<|Zg' U U (dF h7) ?_;refine Zv (ygt U U)<|Zv (Ao U (dF h7) U)<|Zy U<|Znr<|Zre (.t U .n) hS [1] 1 ?_ U U U;rotate_left
 ·exact congrArg Value.bool (by unfold Cz;rw[dT h7];rfl)
 ·exact congrArg Value.bool (by unfold Cz;rw[dF h7];rfl)
theorem UB {C:List Cor} {i:Nat} {c:Cor} (e:C[i]? = some c):(C.take (i+1)).any Cz=((C.take i).any Cz || Cz c):=by rw[←Co e,List.any_append];simp
theorem RB {C:List Cor} {i:Nat} {c:Cor} (e:C[i]? = some c) (h:Cz c=true):C.any Cz=true:=List.any_eq_true.2 ⟨c,List.mem_of_getElem? e,h⟩
theorem fC (k:Nat) (A:Option Addr) (cap:Nat) (cb:List Nat) (C:List Cor) (hl:cb.length=C.length) (h4:C.length≤4):Sp Tryz.prog 158 [.slice A cb.length cap,.func (.func 119) #[] #[]] [.hp (own (CT 74) A cap cb),.hp (BB k (cb.zip C))] fun K=>(C.any Cz=false→K (.returned (.int .i64 (-1))) [.hp (own (CT 74) A cap cb),.hp (BB k (cb.zip C))])∧(C.any Cz=true→∀i:Nat,K (.returned (.int .i64 (i:Int))) [.hp (own (CT 74) A cap cb),.hp (BB k (cb.zip C))]):=by
 refine Zen Tryz.func158 U U U fun e X Φ hS=>Zsr<|Zy U<|Aj<|Zm U<|Zv (Aw ⟨_,Tryz.underlying105⟩ U)<|Zm U ?_;refine Znb ?_;refine Zlq (ι:={ i:Nat // i≤cb.length∧(C.take i).any Cz=false }) (fun i=>[(8,.int .i64 (i.1:Int)),(7,.int .i64 (cb.length:Int)),(0,.slice A cb.length cap),(1,.func (.func 119) #[] #[])]) (fun _=>[.hp (own (CT 74) A cap cb),.hp (BB k (cb.zip C))]) (fun i=>cb.length-i.1) ⟨0,by omega,rfl⟩ ⟨U,U,U,U,trivial⟩ [0,0] U fun i=>Zsr<|Zv (ylt U U)<|Znq<|Zif U (fun h9=>?_) (fun h9=>?_);refine Zkn<|Zsq<|Zbl<|Zsr<|Zb 2 U<|Zns ?_
 refine Zb 3 U<|Zv (yea 0 own.rd U U U (by first|assumption|omega) U Tryz.underlying105 U)<|Zv (yec (m:=0) 0 own.rd U (gE (by first|assumption|omega)) U U U) ?_;rotate_left;refine Zex<|Zxt<|Zxt<|Zxx<|Zxs<|Zy U<|Znr ?_;rotate_left
 ·have hlt:i.1<cb.length:=by omega
  have hci:=gE hlt;have hCi:=gE (l:=C) (k:=i.1) (by omega);have hz1:=De hci hCi;have hzl1:=(List.getElem?_eq_some_iff.1 hz1).1;refine Zol 1 (FJ hz1) U ?_;refine Zkv (eK k cb[i.1] C[i.1]) [0] U U U U<|Zq<|Zn<|Zib U (fun h16=>?_) (fun h16=>?_);refine Zsr<|Zb 2 U<|Znr<|Zr2<|Zr1<|Zr1<|Zr2 ?_;refine Zr1 ?_;rotate_left;refine Zsk<|Zxn<|Znx<|Zrg<|Zv (Ac U U (Ar U (by omega)))<|Zm U<|Znl ?_;rotate_left
  ·refine Zfx [0,0] (Hw hci hCi hzl1) U ?_;refine Zre (.t U .n) (hS.2 (RB hCi h16) i.1) [1,0] 0 U U U U
  ·refine Zfx [0,0] (Hw hci hCi hzl1) U ?_;refine Zlr ⟨i.1+1,hlt,by rw[UB hCi,i.2.2];simpa using h16⟩ (by show cb.length-(i.1+1)<cb.length-i.1;omega) ⟨U,U,U,U,trivial⟩ [1,0] 0 U U
 ·refine Zre (.t U .n) (hS.1 (by have h:=i.2.2;have h2:=i.2.1;rwa[show i.1=C.length by omega,List.take_length] at h)) [0,0] 0 U U U U
theorem eJ (k:Nat) (A:Option Addr) (cap:Nat) (cb:List Nat) (C:List Cor) (hl:cb.length=C.length) (h4:C.length≤4):Sp Tryz.prog 118 [.slice A cb.length cap,.func (.func 119) #[] #[]] [.hp (own (CT 74) A cap cb),.hp (BB k (cb.zip C))] fun K=>(C.any Cz=false→K (.returned (.bool false)) [.hp (own (CT 74) A cap cb),.hp (BB k (cb.zip C))])∧(C.any Cz=true→K (.returned (.bool true)) [.hp (own (CT 74) A cap cb),.hp (BB k (cb.zip C))]):=by
 refine Zen Tryz.func118 U U U fun e X Φ hS=>Zsr<|Zy U<|Zns<|Zb 2 U ?_;refine Zk (fC k A cap cb C hl h4) [0,0] U U<|⟨?_,?_⟩
 refine fun a=>Zq<|Zv (yge rfl rfl)<|Zv (ya rfl)<|Znl<|Znx<|Zrt ?_;rotate_left;refine fun a=>fun i=>Zq<|Zv (yge rfl rfl)<|Zv (ya rfl)<|Znl<|Znx<|Zrt ?_;rotate_left
 ·refine Zre (.t U .n) (hS.1 a) [0,0] 0 U U U U
 ·refine Zre (.t U .n) (hS.2 a) [0,0] 0 U U U U
def Da (m:MD):Bool := !decide (0<(m.q.length:Int)) && !m.C.any Cz
theorem Yf {m:MD} (h:(0:Int)<(m.q.length:Int)):Da m=false:=by unfold Da;rw[dT h];rfl
theorem Tx {m:MD} (h:¬(0:Int)<(m.q.length:Int)) {z:Bool} (hz:m.C.any Cz=z):Da m = !z:=by unfold Da;rw[dF h,hz];rfl
theorem d67 (k b:Nat) (m:MD):Sp Tryz.prog 67 [pt b] [.hp (A4 k b m)] fun K=>(Da m=false→K (.returned (.bool false)) [.hp (A4 k b m)])∧(Da m=true→K (.returned (.bool true)) [.hp (A4 k b m)]):=by
 refine Zen Tryz.func67 U U U fun e X Φ hS=>Zsr<|Zy U<|Aj<|Zm U<|Zk (c35 ..) [0] U U<|Zq ?_;refine Za 4 [0] U U<|Zg U U ?_;refine Zol 0 E0 U<|fun bp=>Zv (yd 0 U U U)<|Za 2 [2] U U<|Zg U U ?_;refine Zol 1 Cs U<|fun ok A cap B capb bn bh cb kb hl=>Zv (yd 0 U U U)<|Zg U U ?_;have hm0:m.most≠0:=by have:=ok.m0;omega
 obtain⟨hl1,hl2⟩:=hl;refine Zk (Y6 bn m.most m.q) [5] U U<|Zq<|Zb 2 U<|Zn<|Zif U (fun h15=>?_) (fun h15=>?_);refine Zsr<|Zy U<|Znr<|Zr1 ?_;rotate_left;refine Zks<|Za 7 [0,7,0,1] U U ?_;rotate_left
 ·refine Zfx [1,1,1,1,1,0,0] (AM (m:=m) ok ⟨hl1,hl2⟩) U ?_;refine Zfx [1,0] (B9 (m:=m)) U ?_;refine Zre (.t U .n) (hS.1 (Yf h15)) [0] 0 U U U U
 ·refine Zk (eJ k A cap cb m.C hl1 ok.n1) [2,3] U U<|⟨?_,?_⟩
  refine fun a=>Zq<|Zv (BM rfl)<|Zv (ya rfl)<|Znl<|Znx<|Zrt ?_;rotate_left;refine fun a=>Zq<|Zv (BM rfl)<|Zv (ya rfl)<|Znl<|Znx<|Zrt ?_;rotate_left
  ·refine Zfx [3,0,2,0,1,0,0] (AM (m:=m) ok ⟨hl1,hl2⟩) U ?_;refine Zfx [1,0] (B9 (m:=m)) U ?_;refine Zre (.t U .n) (hS.2 (Tx h15 a)) [0] 0 U U U U
  ·refine Zfx [3,0,2,0,1,0,0] (AM (m:=m) ok ⟨hl1,hl2⟩) U ?_;refine Zfx [1,0] (B9 (m:=m)) U ?_;refine Zre (.t U .n) (hS.1 (Tx h15 a)) [0] 0 U U U U
theorem c67 (k b:Nat) (m:MD):Sp Tryz.prog 67 [pt b] [.hp (A4 k b m)] fun K=>K (.returned (.bool (Da m))) [.hp (A4 k b m)]:=⟨fun e X w Φ hp hS=>(d67 k b m).run e X w Φ hp ⟨fun h w' hw=>by rw[h] at hS;exact hS w' hw,fun h w' hw=>by rw[h] at hS;exact hS w' hw⟩⟩
theorem c69 (br b:Nat) (s:MD × List Did):Sp Tryz.prog 69 [pt br] [.hp (Q7 br b s)] fun K=>∀A cap B capb g o capm,K (.returned (.agg #[.slice A s.2.length cap,.slice B (s.1.C.map (·.h)).length capb,.slice (some ⟨g,o,none⟩) (Nf s.1).length capm,.bool (Da s.1)])) [.hp (own Cg A cap s.2),.hp (own Bh B capb (s.1.C.map (·.h))),.hp (own u8E (some ⟨g,o,none⟩) capm (Nf s.1)),.hp (A4 900 b s.1)]:=by
 have hk9:900≤1000:=by decide
 refine Zen Tryz.func69 U U U fun e X Φ hS=>Zoc 0 OM U<|fun A cap=>Zoc 2 PM U<|fun hok hhok=>Zsr<|Ze (eal z90) fun b2=>Zw<|Znq ?_;have hml:(Nf s.1).length≤1048576:=Vu hhok;refine Zhd [0,0] U U<|Zht 0 U (ym U)<|Zht 1 U (yn U)<|Zht 2 U (yf 1 U)<|Zht 3 U (yd 0 U U U)<|Zht 4 U (ym U)<|Zht 5 U (yn U)<|Zht 6 U (yf 0 U)<|Zht 7 U (yd 0 U U U)<|Zht 9 U (ym U) ?_;refine Zht 10 U (yn U)<|Zht 11 U (yf 0 U)<|Zht 12 U (yd 0 U U U)<|Zht 15 U (ym U)<|Zht 16 U (yn U)<|Zht 17 U (yf 0 U)<|Zht 18 U (yd 0 U U U)<|ZH1 8<|Zok (c15 ..) [1] U U U<|fun A_1=>fun cap_1=>?_;refine Zqh 3 U ?_
 refine ZH1 13<|Zok (c20 900 b s.1 hk9) [1] U U U<|fun b'=>Zqh 4 U<|ZH1 14<|Zok (c21 ..) [0] U U U<|fun g'=>fun o'=>fun cap'=>Zqh 5 U<|ZH1 19<|Zok (c67 ..) [2] U U U<|Zqh 5 U ?_;refine Zht 20 U (yb l90 U)<|ZH1 21<|Zoe U (esw 4 (m:=4) U U U U U U U)<|Ay 5 U<|ZHn<|Zxr ?_;refine Zre (.wh 4 (m:=4) U U U .n) (hS _ _ _ _ _ _ _) [6,3,2,0] 3 U U U U
def Cv:Nat→MD × List Did→MD × List Did
 | 0,s=>s
 | n+1,s=>((CC (Cv n s).1).1,(Cv n s).2++(CC (Cv n s).1).2)
theorem Lr {P:MD→Prop} (hP:PrP P):∀(l:List Cho) (s:MD × List Did),P s.1→(∀x∈l,Gn x=true∧Kf x)→P (l.foldl J9 s).1
 | [],s,h,_=>h
 | x::l,s,h,hl=>Lr hP l (J9 s x) (hP.s _ _ h (hl x (.head _)).1 (hl x (.head _)).2) fun y hy=>hl y (.tail _ hy)
structure RnP (P:MD→Prop):Prop extends PrP P where
 n4:∀m,P m→m.C.length≤4∧m.q.length≤1024
theorem VO {P:MD→Prop} (hP:RnP P) {m:MD} (h:P m):P (CC m).1:=Lr hP.toPrP _ (m,[]) h fun x hx=>KT (hP.n4 m h).1 hx
theorem TC {P:MD→Prop} (hP:RnP P) {s:MD × List Did} (h:P s.1):∀n,P (Cv n s).1
 | 0=>h
 | n+1=>VO hP (TC hP h n)
theorem Kz:∀i,(CX i).length=2*i
 | 0=>rfl
 | i+1=>by rw[GL,List.length_append,Kz i];rfl
theorem KU {P:MD→Prop} (hP:RnP P) {m:MD} (h:P m):(CC m).2.length≤1032:=by
 have h1:=LR m (Dt m.C.length m.q.length);have h2:=hP.n4 m h;have h3:(Dt m.C.length m.q.length).length=2*m.C.length+m.q.length:=by unfold Dt;rw[List.length_append,List.length_replicate,Kz]
 unfold CC;omega
theorem P4 {P:MD→Prop} (hP:RnP P) {s:MD × List Did} (h:P s.1):∀n,(Cv n s).2.length≤s.2.length+1032*n
 | 0=>Nat.le_refl _
 | n+1=>by have h1:=P4 hP h n;have h2:=KU hP (TC hP h n);show((Cv n s).2++(CC (Cv n s).1).2).length≤_;rw[List.length_append];omega
theorem c30 {p q:HP} (ap:Arg p q) (x:Wld) (hx:x.In (.hp p)) (C:Option Addr) (capc:Nat) (raw:List Int) (hR:Rd u8E (.hp p) C capc raw) (hc1:raw.length≤capc) (hc2:raw.length≤1048576) (hb:∀a∈raw,0≤a∧a<256) {P:MD→Prop} (hP:RnP P) (h0:x.ok=true→P x.m) (rounds:Nat) (hr:rounds≤65536):Sp Tryz.prog 30 [.agg x.cells.toArray,.slice C raw.length capc,.int .i64 (rounds:Int)] [.hp p] fun K=>
  (x.ok=true→∀n,n≤rounds→(∀j,j<n→Da (Cv j (AP x.m (B5 raw))).1=false)→(n=rounds∨Da (Cv n (AP x.m (B5 raw))).1=true)→∀A cap B capb g o capm,K (.returned (.tuple #[.agg #[.slice A (Cv n (AP x.m (B5 raw))).2.length cap,.slice B ((Cv n (AP x.m (B5 raw))).1.C.map (·.h)).length capb,.slice (some ⟨g,o,none⟩) (Nf (Cv n (AP x.m (B5 raw))).1).length capm,.bool (Da (Cv n (AP x.m (B5 raw))).1)],.int .i64 (n:Int),.int .i64 0])) [.hp (own Bh B capb ((Cv n (AP x.m (B5 raw))).1.C.map (·.h))),.hp p])∧(x.ok=false→K (.returned (.tuple #[.agg #[.slice none 0 0,.slice none 0 0,.slice none 0 0,.bool false],.int .i64 0,.int .i64 2])) [.hp p]):=by
 refine Zen Tryz.func30 U U U fun e X Φ hS=>Zsr<|Ze (ebx U) fun b3=>Zw<|Ze (eal z90) fun b6=>Zw<|Zb 2 U<|Zns<|Zv (ydw 1 (m:=4) U U U) ?_;refine Zm U ?_;refine Zk (c66 ap x hx C capc raw hR hc1 hc2 hb hP.toPrP h0) [2] U U<|⟨?_,?_⟩
 refine fun a=>fun br=>fun b=>Zq<|Zv (ym rfl)<|Zv (yx rfl rfl)<|Zv (yx rfl rfl)<|Zv (ya rfl)<|Zv (ya rfl)<|Znl ?_;refine Zxq<|Zsr<|Zb 2 U<|Zn<|Zcf U<|Zkn ?_;refine Zsq<|Zsr<|Zb 6 U ?_;refine Zn<|Df U (dF (by omega))<|Zks<|Zy U<|Znq ?_;refine Zbl ?_;rotate_left;refine fun a=>Zq<|Zv (ym rfl)<|Zv (yx rfl rfl)<|Zv (yx rfl rfl)<|Zv (ya rfl)<|Zv (ya rfl)<|Znl<|Znx<|Zsq ?_;refine Zsr<|Zb 2 U<|Zn<|Zct U<|Zsr<|Zv (yb l90 U)<|Zm U<|Ze (esw 1 (m:=4) U U U U U U U)<|Zw0 ?_;refine Zb 2 U<|Znr<|Zr1 ?_;rotate_left
 ·obtain⟨s0,hs0⟩:∃s0,s0=AP x.m (B5 raw):=⟨_,rfl⟩
  have hP0:P s0.1:=by rw[hs0];exact Lr hP.toPrP _ (x.m,[]) (h0 a) fun y hy=>Pn hb hy
  have hd0:s0.2.length≤524288:=by
   rw[hs0];have:=LR x.m (B5 raw);have:(B5 raw).length≤524288:=by unfold B5;rw[List.length_map,List.length_range];omega
   omega
  rw[←hs0] at hS⊢;refine Zlq (ι:={ n:Nat // n≤rounds∧∀j,j<n→Da (Cv j s0).1=false }) (fun n=>[(11,.int .i64 (n.1:Int)),(9,pt br),(2,.int .i64 (rounds:Int)),(6,pt b6)]) (fun n=>[.hp (Q7 br b (Cv n.1 s0)),.hp p]) (fun n=>rounds-n.1) ⟨0,Nat.zero_le _,fun j hj=>by omega⟩ ⟨U,U,U,U,trivial⟩ [0,0] U fun n=>Zoc 0 OM U<|fun A1 cap1=>Zsq<|Zsr<|Zb 4 U<|Zgs U U (fun h34=>?_) (fun h34=>?_);refine Zg' U U (dT h34)<|Zm U<|Zg' U U (dT h34)<|Zv (yn U)<|Zg' U U (dT h34)<|Zv (yf 0 U)<|Zg' U U (dT h34)<|Zv (yd 0 U U U)<|Zg' U U (dT h34)<|Zk (c67 ..) [2] U U ?_
  refine Zq<|Zg' U U (dT h34)<|Zv (BM U)<|Zv (Ax U (dT h34) U)<|Zn<|Zib U (fun h41=>?_) (fun h41=>?_);refine Zkn<|Zsq<|Zbl<|Zsr<|Za 4 [0,1] U U ?_;rotate_left;refine Zex<|Zxt<|Zxt<|Zxx<|Zxs<|Zm U ?_;rotate_left;refine Zu' U U (dF h34) U<|Zu' U U (dF h34) U<|Zu' U U (dF h34) U<|Zu' U U (dF h34) U<|Zu' U U (dF h34) U<|Zu' U U (dF h34) U<|Zv (Ao U (dF h34) U)<|Zn<|Zcf U ?_;refine Zex<|Zxt<|Zxt<|Zxx<|Zxs<|Zm U ?_;rotate_left
  ·have hlt:n.1<rounds:=by omega
   have hPn:=TC hP hP0 n.1;have hl1:=P4 hP hP0 n.1;have hl2:=KU hP hPn;have hm1:(Cv n.1 s0).2.length+(CC (Cv n.1 s0).1).2.length≤maxLen:=Nat.le_trans (show _≤100000000 by omega) (by decide);have hbig:((Cv n.1 s0).2.length+(CC (Cv n.1 s0).1).2.length)*136≤140737488355328:=by omega
   refine Zk (c68 ap hP.toPrP b (Cv n.1 s0).1 hPn) [0,2] U U<|fun A=>fun cap=>Zq<|Zb 5 U<|Znl ?_;refine Znx<|Zrg<|Za 6 [1,3] U U ?_;refine Ze (Dp 4 0 Jj U U U own.rd U U U (fun _ _=>U) hbig hm1)<|fun A' cap'=>Zw<|Za 2 [1] U U<|Ze (es 3 U U U U U)<|Zw0<|Znl<|Zxn<|Znx<|Zrg<|Zm U<|Zv (Ac U U (Ar U (by omega))) ?_;refine Zy U<|Znl ?_;refine Zfx [3,3,1] (D3 (br:=br) (b:=b) (s:=Cv (n.1+1) s0)) U ?_
   refine Zlr ⟨n.1+1,hlt,fun j hj=>by rcases Nat.lt_succ_iff_lt_or_eq.1 hj with h|h;exact n.2.2 j h;rw[h];simpa using h41⟩ (by show rounds-(n.1+1)<rounds-n.1;omega) ⟨U,U,U,U,trivial⟩ [0,1] 1 U U
  ·refine Zfl [1,1,0] (D3 (br:=br) (b:=b) (s:=Cv n.1 s0)) U<|Zk (c69 ..) [0] U U<|fun A=>fun cap=>fun B=>fun capb=>fun g=>fun o=>fun capm=>Zq ?_;refine Zm U<|Ze (esw 5 (m:=4) U U U U U U U)<|Zw0<|Zb 2 U<|Znr ?_;refine Zre (.wh 5 (m:=4) U U U (.t U (.t U .n))) (hS.1 a n.1 n.2.1 n.2.2 (.inr (by simpa using h41)) _ _ _ _ _ _ _) [1,3] 5 U U U U
  ·have hn:n.1=rounds:=by have:=n.2.1;omega
   refine Zfl [0,0,0] (D3 (br:=br) (b:=b) (s:=Cv n.1 s0)) U<|Zk (c69 ..) [0] U U<|fun A=>fun cap=>fun B=>fun capb=>fun g=>fun o=>fun capm=>Zq ?_;refine Zm U<|Ze (esw 5 (m:=4) U U U U U U U)<|Zw0<|Zb 2 U<|Znr ?_;refine Zre (.wh 5 (m:=4) U U U (.t U (.t U .n))) (hS.1 a n.1 n.2.1 n.2.2 (.inl hn) _ _ _ _ _ _ _) [1,3] 5 U U U U
 ·refine Zre (.wh 1 (m:=4) U U U (.t U (.t U .n))) (hS.2 a) [0] 2 U U U U
structure Wld.Fit (x:Wld) (n:Nat):Prop where
 l:x.l.length≤6
 b:x.bs.length≤1024
 n:n≤1200
 c:∀(j:Nat) (h:j<x.l.length),x.l[j].2.2.length≤40
theorem c27 (c:Ck) (x:Wld) (h:x.In c) (C:Option Addr) (n capc:Nat):Sp Tryz.prog 27 [.agg x.cells.toArray,.slice C n capc] [c] fun K=>K (.returned (.bool true)) [c]∧(x.Fit n→K (.returned (.bool false)) [c]):=by
 have hRc:=h.cds.r;refine Zen Tryz.func27 U U U fun e X Φ hS=>Zsr<|Ze (ebx U) fun b2=>Zw<|Zy U<|Aj<|Za 2 [0,0] U U ?_;refine Zv (Aw ⟨_,Tryz.underlying22⟩ U)<|Zb 2 U<|Zgs U U (fun h10=>?_) (fun h10=>?_);refine Zu' U U (dT h10) U<|Zu' U U (dT h10) U<|Zu' U U (dT h10) U<|Zu' U U (dT h10) U<|Zv (Ax U (dT h10) U)<|Zb 5 U ?_;refine Zn<|Zct U<|Zsr<|Zy U<|Znr<|Zr1 ?_;rotate_left;refine Zg' U U (dF h10)<|Zv (yf 1 U)<|Zg' U U (dF h10)<|Zv (yd 0 U U U)<|Zg' U U (dF h10)<|Zv (Aw ⟨_,Tryz.underlying23⟩ U)<|Zg' U U (dF h10)<|Zv (ygt U U)<|Zv (Ao U (dF h10) U)<|Zm U ?_
 refine Zgs U U (fun h16=>?_) (fun h16=>?_);refine Zu' U U (dT h16) U<|Zu' U U (dT h16) U<|Zu' U U (dT h16) U<|Zv (Ax U (dT h16) U)<|Zn<|Zct U<|Zsr<|Zy U<|Znl ?_;refine Zxr<|Zr1 ?_;rotate_left;refine Zg' U U (dF h16)<|Zm U<|Zg' U U (dF h16)<|Zv (Aw ⟨_,Tryz.underlying23⟩ U)<|Zg' U U (dF h16)<|Zv (ygt U U)<|Zv (Ao U (dF h16) U)<|Zn<|Zif U (fun h20=>?_) (fun h20=>?_);refine Zsr<|Zy U<|Znr<|Zr1 ?_;rotate_left;refine Zkn<|Zsq<|Zsr<|Zy U<|Znb ?_;rotate_left
 ·refine Zre (.t U .n) hS.1 [1] 1 U U U U
 ·refine Zre (.t U .n) hS.1 [1] 1 U U U U
 ·refine Zre (.t U .n) hS.1 [1] 1 U U U U
 ·refine Zlq (ι:={ i:Nat // i≤x.l.length∧∀(j:Nat) (h:j<x.l.length),j<i→x.l[j].2.2.length≤40 }) (fun i=>[(5,.int .i64 (i.1:Int)),(2,pt b2)]) (fun _=>[.blk b2 86 x.cells,c]) (fun i=>x.l.length-i.1) ⟨0,Nat.zero_le _,fun j y hj=>by omega⟩ ⟨U,U,trivial⟩ [0,0] U fun i=>Zsq<|Zsr<|Za 3 [0,0] U U<|Zv (Aw ⟨_,Tryz.underlying22⟩ U)<|Zv (ylt U U)<|Zn ?_;refine Zif U (fun h25=>?_) (fun h25=>?_);refine Zkn<|Zsq<|Zbl<|Zsr<|Za 3 [0,0] U U<|Zv (yea 1 hRc U U U (by first|assumption|omega) U Tryz.underlying22 U)<|Zv (yec (m:=0) 1 hRc U (gE (by first|assumption|omega)) U U U) ?_
  refine Zv (Aw ⟨_,Tryz.underlying62⟩ U)<|Zv (ygt U U)<|Zn<|Zif U (fun h34=>?_) (fun h34=>?_);refine Zsr<|Zy U<|Znr<|Zr2<|Zr1<|Zr1<|Zr2<|Zr1 ?_;rotate_left;refine Zsk<|Zxn<|Znx<|Zrg<|Zm U<|Zv (Ac U U (Ar U (by omega)))<|Zy U<|Znl ?_;rotate_left;refine Zex<|Zxt<|Zxt<|Zxx<|Zxs<|Zy U<|Znr ?_;rotate_left
  ·refine Zre (.t U .n) hS.1 [1] 1 U U U U
  ·have hlt:i.1<x.l.length:=by omega
   refine Zlr ⟨i.1+1,hlt,fun j hj hji=>by rcases Nat.lt_succ_iff_lt_or_eq.1 hji with h|h;exact i.2.2 j hj h;subst h;omega⟩ (by show x.l.length-(i.1+1)<x.l.length-i.1;omega) ⟨U,U,trivial⟩ [0,0] 0 U U
  ·refine Zre (.t U .n) (hS.2 ⟨by omega,by omega,by omega,fun j hj=>i.2.2 j hj (by omega)⟩) [1] 1 U U U U
def I64 (x:Int):Prop := -9223372036854775808≤x∧x≤9223372036854775807
theorem i64_in {x:Int} (h:I64 x):i64 x=x:=Ar rfl h
theorem Mc (x:Int):w32 x=x%4294967296:=L8 x
theorem ik {k:IntKind} {x y:Int} (h:x=y):pk [Value.int k x]=Value.int k y:=congrArg (Value.int k) h
theorem aQ {b:Int} (hu:U32 b):IntKind.i64.wrap b=b:=SS hu
theorem aP {x:Int} (h:I64 x):IntKind.i64.wrap x=x:=Ar rfl h
theorem T9 (x m:Int):(0≤x∧x.tmod m=x%m)∨(x<0∧x.tmod m = -((-x)%m)):=by
 rcases Int.lt_or_le x 0 with h|h
 ·refine .inr ⟨h,?_⟩;rw[←Int.tmod_eq_emod_of_nonneg (by omega),Int.neg_tmod,Int.neg_neg]
 ·exact .inl ⟨h,Int.tmod_eq_emod_of_nonneg h⟩
theorem cA (x:Int):s32 x=if x%4294967296<2147483648 then x%4294967296 else x%4294967296-4294967296:=by simp only[s32,IntKind.wrap,IntKind.signed,IntKind.bits];simp;split<;>split<;>omega
theorem Gr {a:Int} (ha:U32 a):sgn a=if a<2147483648 then a else a-4294967296:=by unfold U32 at ha;unfold sgn;rw[i64_in (by rw[cA];split<;>exact⟨by omega,by omega⟩),cA];split<;>split<;>omega
theorem iv {k:IntKind} {x y:Int} (h:x=y):some (Value.int k x)=some (.int k y):=congrArg (fun z=>some (Value.int k z)) h
theorem Tp (k:Nat) (h:k<32):1≤(2:Int) ^ k∧(2:Int) ^ k≤2147483648:=by
 have h1:(2:Nat) ^ k≤2 ^ 31:=Nat.pow_le_pow_right (by decide) (by omega);have h2:0<(2:Nat) ^ k:=Nat.pos_of_neZero _;have h3:(2:Int) ^ k=((2 ^ k:Nat):Int):=by exact_mod_cast rfl
 omega
theorem eP (a:Int) (ha:U32 a:=by assumption):Sp Tryz.prog 134 [.int .u32 a] [] fun K=>K (.returned (.int .i64 (sgn a))) []:=by
 have he:=Gr ha;have e2:IntKind.i64.wrap a=a:=aQ ha;refine Zen Tryz.func134 U U U fun e X Φ hS=>Zsr<|Zy U<|Aj<|Zb 2 U<|Znl ?_;refine Znx<|Zif U (fun h4=>?_) (fun h4=>?_);refine Zsr<|Zm U<|Zv (ycv Tryz.underlying40 Tryz.underlying2 U U)<|Zv (Dh U U U)<|Zy U<|Znr<|Zr1<|Zre (.t U .n) hS [] 0 ?_ U U U;rotate_left;refine Zks<|Zm U<|Zv (ycv Tryz.underlying40 Tryz.underlying2 U U)<|Zy U<|Znr<|Zre (.t U .n) hS [] 0 ?_ U U U;rotate_left
 ·refine ik ?_;unfold U32 at ha;rw[e2,he,if_neg (by omega)];exact Ar rfl (by omega)
 ·refine ik ?_;rw[e2,he,if_pos (by omega)]
theorem eQ (x:Int) (h : -4294967296≤x∧x<4294967296:=by omega):Sp Tryz.prog 135 [.int .i64 x] [] fun K=>K (.returned (.int .u32 (w32 x))) []:=by
 refine Zen Tryz.func135 U U U fun e X Φ hS=>Zsr<|Zy U<|Aj<|Zb 2 U<|Znl ?_;refine Znx<|Zif U (fun h4=>?_) (fun h4=>?_);refine Zsr<|Zm U<|Zv (Ac U U (Ar U (by omega)))<|Zv (ycv Tryz.underlying2 Tryz.underlying40 U (F3 U (by omega)))<|Zy U<|Znr<|Zr1<|Zre (.t U .n) hS [] 0 ?_ U U U;rotate_left;refine Zks<|Zm U<|Zv (ycv Tryz.underlying2 Tryz.underlying40 U (F3 U (by omega)))<|Zy U<|Znr<|Zre (.t U .n) hS [] 0 ?_ U U U;rotate_left
 all_goals refine ik ?_
 all_goals rw[Mc]
 all_goals omega
theorem XL {n w:Int} (hn:U32 n):Ip n w=if w=1 then n%256 else if w=2 then n%65536 else n:=by
 obtain⟨k,rfl,hk⟩:∃k:Nat,n=k∧k<4294967296:=⟨n.toNat,by unfold U32 at hn;omega,by unfold U32 at hn;omega⟩
 unfold Ip
 rw[BitVec.toNat_and,BitVec.toNat_ofInt,show(BitVec.ofInt 32 255).toNat=2 ^ 8-1 from rfl,Nat.and_two_pow_sub_one_eq_mod,
  BitVec.toNat_and,BitVec.toNat_ofInt,show(BitVec.ofInt 32 65535).toNat=2 ^ 16-1 from rfl,Nat.and_two_pow_sub_one_eq_mod,A6 ⟨by omega,by omega⟩,A6 ⟨by omega,by omega⟩]
 split
 ·omega
 ·split<;>omega
theorem kY {n:Int} (hn:U32 n) (m:Int):n.tmod m=n%m:=Int.tmod_eq_emod_of_nonneg hn.1
theorem kX {n:Int} (hn:U32 n) (m:Int):n.tdiv m=n/m:=Int.tdiv_eq_ediv_of_nonneg hn.1
theorem I8 (a:Nat) (h:a<4294967296):(BitVec.ofInt 32 (a:Int)).toNat=a:=by rw[BitVec.toNat_ofInt];omega
theorem O6 {a b:Nat} (h:b<4294967296):a &&& b<4294967296:=Nat.lt_of_le_of_lt Nat.and_le_right h
theorem C1 {a b:Nat} (ha:a<4294967296) (hb:b<4294967296):BL a b=((a &&& b:Nat):Int):=by unfold BL;rw[BitVec.toNat_and,I8 a ha,I8 b hb];exact A6 ⟨by omega,by have:=@O6 a b hb;omega⟩
theorem LB {a b:Nat} (ha:a<4294967296) (hb:b<4294967296):orF a b=((a ||| b:Nat):Int):=by unfold orF;rw[BitVec.toNat_or,I8 a ha,I8 b hb];exact A6 ⟨by omega,by have:=@Nat.or_lt_two_pow a b 32 ha hb;omega⟩
theorem Bz (w m k:Nat):w &&& m=2 ^ k*((w/2 ^ k) &&& (m/2 ^ k))+((w%2 ^ k) &&& (m%2 ^ k)):=by rw[←Nat.and_div_two_pow,←Nat.and_mod_two_pow,Nat.div_add_mod]
theorem Bl (w k:Nat):w &&& (2 ^ k-1)=w%2 ^ k:=Nat.and_two_pow_sub_one_eq_mod w k
theorem U32.nat {w:Int} (h:U32 w):∃n:Nat,w=n∧n<4294967296:=⟨w.toNat,by unfold U32 at h;omega,by unfold U32 at h;omega⟩
theorem X4 {w:Int} (hw:U32 w) (hi lo:Nat) (h:lo≤hi) (h2:hi<32) (a b:Nat) (ha:2 ^ lo=a) (hb:2 ^ (hi-lo+1)=b):AB w hi lo=w/a%b:=by
 obtain⟨n,rfl,hn⟩:=hw.nat;subst ha hb;have h32:(2:Nat) ^ (hi-lo+1)≤2 ^ 32:=Nat.pow_le_pow_right (by decide) (by omega);have hpos:0<(2:Nat) ^ (hi-lo+1):=Nat.pos_of_neZero _;unfold AB;rw[show((hi:Int)-lo+1).toNat=hi-lo+1 by omega,Int.toNat_natCast,Nat.min_eq_left (by omega),Nat.min_eq_left (by omega)]
 have e0:((n:Int).fdiv (2 ^ lo))=((n/2 ^ lo:Nat):Int):=by
  rw[Int.fdiv_eq_ediv_of_nonneg _ (by exact_mod_cast Nat.zero_le _)]
  exact_mod_cast rfl
 have e1:w32 (w32 (1*2 ^ (hi-lo+1))-1)=((2 ^ (hi-lo+1)-1:Nat):Int):=by
  have hp:(2:Int) ^ (hi-lo+1)=((2 ^ (hi-lo+1):Nat):Int):=by exact_mod_cast rfl
  unfold w32;rw[L8,L8,Int.one_mul,hp];generalize 2 ^ (hi-lo+1)=q at *;omega
 rw[e0,e1,C1 (Nat.lt_of_le_of_lt (Nat.div_le_self _ _) hn) (by omega),Bl]
 norm_cast
theorem B4 {w:Int} (hw:U32 w) (hi lo a b:Int) (h:lo.toNat≤hi.toNat) (h2:hi.toNat<32) (e1:hi=hi.toNat) (e2:lo=lo.toNat) (ha:((2 ^ lo.toNat:Nat):Int)=a) (hb:((2 ^ (hi.toNat-lo.toNat+1):Nat):Int)=b):AB w hi lo=w/a%b:=by subst ha hb;rw[e1,e2,X4 hw _ _ h h2 _ _ rfl rfl];simp only[Int.toNat_natCast]
theorem XB {w:Int} (hw:U32 w) (n:Nat) (h:n≤31) (a:Nat) (ha:2 ^ n=a):H6 w n=if w<2147483648 then 0 else 4294967296-(a:Int):=by
 subst ha;have hw':=hw;unfold U32 at hw;unfold H6;have e:w.fdiv (2 ^ min 31 32)=w/2147483648:=by rw[Int.fdiv_eq_ediv_of_nonneg _ (by decide)];rfl
 rw[e,Int.toNat_natCast,Nat.min_eq_left (by omega)];by_cases h0:w<2147483648
 ·rw[if_pos (by omega),if_pos h0]
 ·rw[if_neg (by omega),if_neg h0];have hp:(2:Int) ^ n=((2 ^ n:Nat):Int):=by exact_mod_cast rfl
  have h32:(2:Nat) ^ n≤2 ^ 31:=Nat.pow_le_pow_right (by decide) h;have hpos:0<(2:Nat) ^ n:=Nat.pos_of_neZero _;unfold w32;rw[L8,hp];generalize 2 ^ n=q at *;omega
theorem ID {w:Int} (hw:U32 w) (n a:Int) (h:n.toNat≤31) (e:n=n.toNat) (ha:((2 ^ n.toNat:Nat):Int)=a):H6 w n=if w<2147483648 then 0 else 4294967296-a:=by subst ha;rw[e,XB hw _ h _ rfl,Int.toNat_natCast]
theorem X0 {a b:Nat} (k:Nat) (h:b<2 ^ k) (ha:a%2 ^ k=0):a ||| b=a+b:=by
 have:a=2 ^ k*(a/2 ^ k):=by have:=Nat.div_add_mod a (2 ^ k);omega
 rw[this,Nat.two_pow_add_eq_or_of_lt h]
theorem Ec {a b:Int} (ha:U32 a) (hb:U32 b) (k:Nat) (q:Int) (hq:2 ^ k=q) (h:b<q) (h0:a%q=0):orF a b=a+b:=by
 obtain⟨m,rfl,hm⟩:=ha.nat;obtain⟨n,rfl,hn⟩:=hb.nat;subst hq;rw[LB hm hn,X0 k (by exact_mod_cast h) (by exact_mod_cast h0)]
 norm_cast
theorem Tc {a b:Int} (ha:U32 a) (hb:U32 b):orF a b=orF b a:=by obtain⟨m,rfl,hm⟩:=ha.nat;obtain⟨n,rfl,hn⟩:=hb.nat;rw[LB hm hn,LB hn hm,Nat.or_comm]
theorem or3 {a b c:Int} (ha:U32 a) (hb:U32 b) (hc:U32 c) (k j:Nat) (q r:Int) (hq:2 ^ k=q) (hr:2 ^ j=r) (h:b<q∧a%q=0) (h2:c<r∧(a+b)%r=0) (hu:U32 (a+b)):orF (orF a b) c=a+b+c:=by rw[Ec ha hb k q hq h.1 h.2,Ec hu hc j r hr h2.1 h2.2]
theorem JV {a:Int} (n:Nat) (q:Int) (hq:(2:Int) ^ min n 32=q) (h:0≤a*q∧a*q<4294967296):sl a n=a*q:=by subst hq;exact A6 h
theorem T6 {w:Int} (hw:U32 w):tkI w=if w<2147483648 then w/1048576%4096 else w/1048576%4096+4294963200:=by unfold tkI;rw[B4 hw 31 20 1048576 4096 (by decide) (by decide) rfl rfl rfl rfl,ID hw 12 4096 (by decide) rfl rfl];rw[Tc ⟨by omega,by omega⟩ (by split<;>exact⟨by omega,by omega⟩),Ec (by split<;>exact⟨by omega,by omega⟩) ⟨by omega,by omega⟩ 12 4096 rfl (by omega) (by split<;>decide)];split<;>omega
theorem T8 {w:Int} (hw:U32 w):tkS w=if w<2147483648 then w/33554432%128*32+w/128%32 else w/33554432%128*32+w/128%32+4294963200:=by
 unfold tkS;rw[B4 hw 30 25 33554432 64 (by decide) (by decide) rfl rfl rfl rfl,B4 hw 11 7 128 32 (by decide) (by decide) rfl rfl rfl rfl,ID hw 11 2048 (by decide) rfl rfl];have hw':=hw;unfold U32 at hw';have e:sl (w/33554432%64) 5=w/33554432%64*32:=JV 5 32 rfl (by omega);rw[e];have e1:orF (if w<2147483648 then 0 else 4294967296-2048) (w/33554432%64*32)=(if w<2147483648 then 0 else 4294965248)+w/33554432%64*32:=by rw[Ec (by split<;>exact⟨by omega,by omega⟩) ⟨by omega,by omega⟩ 11 2048 rfl (by omega) (by split<;>decide)];rfl
 rw[e1];split
 ·rw[Ec ⟨by omega,by omega⟩ ⟨by omega,by omega⟩ 5 32 rfl (by omega) (by omega)];omega
 ·rw[Ec ⟨by omega,by omega⟩ ⟨by omega,by omega⟩ 5 32 rfl (by omega) (by omega)];omega
theorem T5 {w:Int} (hw:U32 w):tkB w=if w<2147483648 then w/128%2*2048+w/33554432%64*32+w/256%16*2 else w/128%2*2048+w/33554432%64*32+w/256%16*2+4294963200:=by
 unfold tkB;rw[B4 hw 7 7 128 2 (by decide) (by decide) rfl rfl rfl rfl,B4 hw 30 25 33554432 64 (by decide) (by decide) rfl rfl rfl rfl,B4 hw 11 8 256 16 (by decide) (by decide) rfl rfl rfl rfl,ID hw 12 4096 (by decide) rfl rfl];have hw':=hw;unfold U32 at hw';rw[show sl (w/128%2) 11=w/128%2*2048 from JV 11 2048 rfl (by omega),show sl (w/33554432%64) 5=w/33554432%64*32 from JV 5 32 rfl (by omega),show sl (w/256%16) 1=w/256%16*2 from JV 1 2 rfl (by omega)]
 have e1:orF (if w<2147483648 then 0 else 4294967296-4096) (w/128%2*2048)=(if w<2147483648 then 0 else 4294963200)+w/128%2*2048:=by rw[Ec (by split<;>exact⟨by omega,by omega⟩) ⟨by omega,by omega⟩ 12 4096 rfl (by omega) (by split<;>decide)];rfl
 rw[e1];split
 all_goals rw[or3 ⟨by omega,by omega⟩ ⟨by omega,by omega⟩ ⟨by omega,by omega⟩ 11 5 2048 32 rfl rfl ⟨by omega,by omega⟩ ⟨by omega,by omega⟩ ⟨by omega,by omega⟩];omega
theorem T7 {w:Int} (hw:U32 w):tkJ w=if w<2147483648 then w/4096%256*4096+w/1048576%2*2048+w/2097152%1024*2 else w/4096%256*4096+w/1048576%2*2048+w/2097152%1024*2+4293918720:=by
 unfold tkJ;rw[B4 hw 19 12 4096 256 (by decide) (by decide) rfl rfl rfl rfl,B4 hw 20 20 1048576 2 (by decide) (by decide) rfl rfl rfl rfl,B4 hw 30 21 2097152 1024 (by decide) (by decide) rfl rfl rfl rfl,ID hw 20 1048576 (by decide) rfl rfl];have hw':=hw;unfold U32 at hw';rw[show sl (w/4096%256) 12=w/4096%256*4096 from JV 12 4096 rfl (by omega),show sl (w/1048576%2) 11=w/1048576%2*2048 from JV 11 2048 rfl (by omega),show sl (w/2097152%1024) 1=w/2097152%1024*2 from JV 1 2 rfl (by omega)]
 have e1:orF (if w<2147483648 then 0 else 4294967296-1048576) (w/4096%256*4096)=(if w<2147483648 then 0 else 4293918720)+w/4096%256*4096:=by rw[Ec (by split<;>exact⟨by omega,by omega⟩) ⟨by omega,by omega⟩ 20 1048576 rfl (by omega) (by split<;>decide)];rfl
 rw[e1];split
 all_goals rw[or3 ⟨by omega,by omega⟩ ⟨by omega,by omega⟩ ⟨by omega,by omega⟩ 12 11 4096 2048 rfl rfl ⟨by omega,by omega⟩ ⟨by omega,by omega⟩ ⟨by omega,by omega⟩];omega
theorem Yy {w:Int} (hw:U32 w):tkU w=w-w%4096:=by
 obtain⟨n,rfl,hn⟩:=hw.nat;unfold tkU;have e:((BitVec.ofInt 32 (n:Int)) &&& ~~~ BitVec.ofInt 32 4095).toNat=n &&& 4294963200:=by rw[BitVec.toNat_and,I8 n hn];rfl
 rw[e,A6 ⟨by omega,by have:=@O6 n 4294963200 (by decide);omega⟩,Bz n _ 12];rw[show 4294963200%2 ^ 12=0 from rfl,show 4294963200/2 ^ 12=2 ^ 20-1 from rfl,Nat.and_zero,Bl];omega
theorem bM {w:Int} (hw:U32 w):BL w 0x7f=w%128:=by obtain⟨n,rfl,hn⟩:=hw.nat;rw[show(0x7f:Int)=((0x7f:Nat):Int) from rfl,C1 hn (by decide),show 0x7f=2 ^ 7-1 from rfl,Bl];omega
theorem XO {w:Int} (hw:U32 w):BL w 0x707f=w%128+w/4096%8*4096:=by
 obtain⟨n,rfl,hn⟩:=hw.nat
 rw[show(0x707f:Int)=((0x707f:Nat):Int) from rfl,C1 hn (by decide),Bz n _ 12,show 0x707f/2 ^ 12=2 ^ 3-1 from rfl,Bl,Bz (n%2 ^ 12) _ 7,
  show 0x707f%2 ^ 12/2 ^ 7=0 from rfl,Nat.and_zero,show 0x707f%2 ^ 12%2 ^ 7=2 ^ 7-1 from rfl,Bl]
 omega
theorem S3 {n m k:Nat} (hk:k≤32) (h:m%2 ^ k=0x707f) (h15:15≤k):n &&& m=2 ^ k*((n/2 ^ k) &&& (m/2 ^ k))+(n%128+n/4096%8*4096):=by
 rw[Bz n m k,h,Bz (n%2 ^ k) _ 12,show 0x707f/2 ^ 12=2 ^ 3-1 from rfl,Bl,Bz (n%2 ^ k%2 ^ 12) _ 7,
  show 0x707f%2 ^ 12/2 ^ 7=0 from rfl,Nat.and_zero,show 0x707f%2 ^ 12%2 ^ 7=2 ^ 7-1 from rfl,Bl]
 have e:(2:Nat) ^ k=2 ^ 15*2 ^ (k-15):=by rw[←Nat.pow_add];congr 1;omega
 have e1:n%2 ^ k%2 ^ 15=n%2 ^ 15:=by rw[e,Nat.mod_mul_right_mod]
 have e2:n%2 ^ k%2 ^ 12%2 ^ 7=n%128:=by omega
 have e3:n%2 ^ k/2 ^ 12%2 ^ 3=n/4096%8:=by omega
 omega
theorem bL {w:Int} (hw:U32 w):BL w 0xfe00707f=w%128+w/4096%8*4096+w/33554432%128*33554432:=by obtain⟨n,rfl,hn⟩:=hw.nat;rw[show(0xfe00707f:Int)=((0xfe00707f:Nat):Int) from rfl,C1 hn (by decide),S3 (k:=25) (by decide) rfl (by decide),show 0xfe00707f/2 ^ 25=2 ^ 7-1 from rfl,Bl];omega
theorem jV {w:Int} (hw:U32 w):BL w 0xf800707f=w%128+w/4096%8*4096+w/134217728%32*134217728:=by obtain⟨n,rfl,hn⟩:=hw.nat;rw[show(0xf800707f:Int)=((0xf800707f:Nat):Int) from rfl,C1 hn (by decide),S3 (k:=27) (by decide) rfl (by decide),show 0xf800707f/2 ^ 27=2 ^ 5-1 from rfl,Bl];omega
theorem jZ {w:Int} (hw:U32 w):BL w 0xf9f0707f=w%128+w/4096%8*4096+w/1048576%32*1048576+w/134217728%32*134217728:=by
 obtain⟨n,rfl,hn⟩:=hw.nat
 rw[show(0xf9f0707f:Int)=((0xf9f0707f:Nat):Int) from rfl,C1 hn (by decide),S3 (k:=20) (by decide) rfl (by decide),Bz (n/2 ^ 20) _ 7,show 0xf9f0707f/2 ^ 20/2 ^ 7=2 ^ 5-1 from rfl,Bl,
  Bz (n/2 ^ 20%2 ^ 7) _ 5,show 0xf9f0707f/2 ^ 20%2 ^ 7/2 ^ 5=0 from rfl,Nat.and_zero,show 0xf9f0707f/2 ^ 20%2 ^ 7%2 ^ 5=2 ^ 5-1 from rfl,Bl]
 omega
theorem jY {w:Int} (hw:U32 w):BL w 0xf00fffff=w%1048576+w/268435456%16*268435456:=by
 obtain⟨n,rfl,hn⟩:=hw.nat
 rw[show(0xf00fffff:Int)=((0xf00fffff:Nat):Int) from rfl,C1 hn (by decide),Bz n _ 28,show 0xf00fffff/2 ^ 28=2 ^ 4-1 from rfl,Bl,Bz (n%2 ^ 28) _ 20,
  show 0xf00fffff%2 ^ 28/2 ^ 20=0 from rfl,Nat.and_zero,show 0xf00fffff%2 ^ 28%2 ^ 20=2 ^ 20-1 from rfl,Bl]
 omega
theorem XP {w:Int} (hw:U32 w):BL w 0xffffffff=w:=by obtain⟨n,rfl,hn⟩:=hw.nat;rw[show(0xffffffff:Int)=((0xffffffff:Nat):Int) from rfl,C1 hn (by decide),show 0xffffffff=2 ^ 32-1 from rfl,Bl];omega
theorem jX {w:Int} (hw:U32 w):BL w 0xfffff07f=w%128+w/4096%1048576*4096:=by
 obtain⟨n,rfl,hn⟩:=hw.nat
 rw[show(0xfffff07f:Int)=((0xfffff07f:Nat):Int) from rfl,C1 hn (by decide),Bz n _ 12,show 0xfffff07f/2 ^ 12=2 ^ 20-1 from rfl,Bl,Bz (n%2 ^ 12) _ 7,
  show 0xfffff07f%2 ^ 12/2 ^ 7=0 from rfl,Nat.and_zero,show 0xfffff07f%2 ^ 12%2 ^ 7=2 ^ 7-1 from rfl,Bl]
 omega
theorem pwn:∀k:_root_.Fin 31,IntKind.u32.wrap (2 ^ k.1*2)=2 ^ (k.1+1):=by decide+kernel
theorem Pf (n:Nat) (hn:n≤31:=by first|decide|omega):Sp Tryz.prog 112 [.int .i64 (n:Int)] [] fun K=>K (.returned (.int .u32 (2 ^ n))) []:=by
 refine Zen Tryz.func112 U U U fun e X Φ hS=>Zsr<|Zy U<|Zns<|Zy U<|Znq ?_;refine Zsr<|Zy U<|Znb ?_;refine Zlq (ι:={ i:Nat // i≤n }) (fun i=>[(4,.int .i64 (i.1:Int)),(3,.int .u32 (2 ^ i.1)),(0,.int .i64 n)]) (fun _=>[]) (fun i=>n-i.1) ⟨0,Nat.zero_le _⟩ ⟨U,U,U,trivial⟩ [] U fun i=>Zsq<|Zsr<|Zb 3 U<|Zn<|Zif U (fun h7=>?_) (fun h7=>?_);refine Zkn<|Zsq<|Zbl<|Zrg<|Zm U<|Zv (AD U U U)<|Zy U<|Znl<|Zxn ?_;refine Znx<|Zrg<|Zm U<|Zv (Ac U U (Ar U (by omega)))<|Zy U<|Znl ?_;rotate_left;refine Zex<|Zxt<|Zxt<|Zxx<|Zxs<|Zb 2 U<|Zn ?_;refine Zrt<|Zre (.t U .n) hS [] 0 ?_ U U U;rotate_left
 ·refine Zlr ⟨i.1+1,by omega⟩ (by show n-(i.1+1)<n-i.1;omega) ⟨U,iv (pwn ⟨i.1,by omega⟩),U,trivial⟩ [] 0 U U
 ·have hq:i.1=n:=by have:=i.2;omega
  exact ik (by rw[hq])
def Au (w:Int) (hi lo:Nat):Int:=w/2 ^ lo%2 ^ (hi+1-lo)
theorem I4 (n hi lo:Nat):Au (n:Int) hi lo=((n/2 ^ lo%2 ^ (hi+1-lo):Nat):Int):=by unfold Au;norm_cast
theorem UH {w:Int} (hw:U32 w) {hi j:Nat} (h:j≤hi):Au w hi j=2*Au w hi (j+1)+w/2 ^ j%2:=by
 obtain⟨n,rfl,hn⟩:=hw.nat;have h1:n/2 ^ j%2 ^ (hi+1-j)=2*(n/2 ^ (j+1)%2 ^ (hi+1-(j+1)))+n/2 ^ j%2:=by rw[show hi+1-j=hi+1-(j+1)+1 by omega,show 2 ^ (hi+1-(j+1)+1)=2*2 ^ (hi+1-(j+1)) by rw[Nat.pow_succ,Nat.mul_comm],Nat.mod_mul,Nat.div_div_eq_div_mul,←Nat.pow_succ,Nat.add_comm]
 rw[I4,I4,h1]
 norm_cast
theorem I5 {w:Int} (hw:U32 w) (hi lo:Nat):U32 (Au w hi lo):=by obtain⟨n,rfl,hn⟩:=hw.nat;rw[I4];have h1:n/2 ^ lo%2 ^ (hi+1-lo)≤n/2 ^ lo:=Nat.mod_le _ _;have h2:n/2 ^ lo≤n:=Nat.div_le_self _ _;exact⟨by omega,by omega⟩
theorem Y4 (w:Int) (hi lo:Nat) (hw:U32 w:=by assumption) (h:hi≤31:=by first|decide|omega) (h2:lo≤hi:=by first|decide|omega):Sp Tryz.prog 110 [.int .u32 w,.int .i64 (hi:Int),.int .i64 (lo:Int)] [] fun K=>K (.returned (.int .u32 (Au w hi lo))) []:=by
 refine Zen Tryz.func110 U U U fun e X Φ hS=>Zsr<|Zy U<|Zns<|Zy U<|Znq ?_;refine Zsr<|Zb 2 U<|Znb ?_;refine Zlq (ι:={ i:Nat // lo≤i∧i≤hi+1 }) (fun i=>[(8,.int .i64 ((i.1:Int)-1)),(7,.int .u32 (Au w hi i.1)),(0,.int .u32 w),(2,.int .i64 (lo:Int))]) (fun _=>[]) (fun i=>i.1) ⟨hi+1,by omega,by omega⟩ ⟨iv (by show(hi:Int)=((hi+1:Nat):Int)-1;omega),iv (by show 0=Au w hi (hi+1);unfold Au;rw[Nat.sub_self,Int.pow_zero,Int.emod_one]),U,U,trivial⟩ [] U fun i=>Zsq<|Zsr<|Zb 3 U<|Zn<|Zif U (fun h12=>?_) (fun h12=>?_);refine Zkn<|Zsq<|Zbl<|Zrg<|Zm U<|Zv (AD U U U)<|Zb 2 U ?_;rotate_left
 refine Zex<|Zxt<|Zxt<|Zxx<|Zxs<|Zb 2 U<|Zn ?_;refine Zrt<|Zre (.t U .n) hS [] 0 ?_ U U U;rotate_left
 ·obtain⟨j,hj⟩:∃j,i.1=j+1:=⟨i.1-1,by omega⟩
  have hjh:j≤hi:=by have:=i.2;omega
  have e1:(i.1:Int)-1=(j:Nat):=by omega
  have hne:(2:Int) ^ j≠0:=by have:=Tp j (by omega);omega
  have hb:=UH hw hjh;have hu:=I5 hw hi j;have hq:(IntKind.u32.wrap (w.tdiv (2 ^ j))).tmod 2=w/2 ^ j%2:=by have h0:0≤w/2 ^ j:=Int.ediv_nonneg hw.1 (by have:=Tp j (by omega);omega);have h1:w/2 ^ j≤w:=Int.ediv_le_self _ hw.1;rw[kX hw,show IntKind.u32.wrap (w/2 ^ j)=w/2 ^ j from A6 ⟨h0,by unfold U32 at hw;omega⟩,Int.tmod_eq_emod_of_nonneg h0]
  rw[e1,hj];refine Zk (Pf j (by omega)) [] U U<|Zq<|Zv (HV U U (by assumption) U)<|Zv (Cc U U (by decide) U)<|Zv (Ac U U U)<|Zy U<|Znl<|Zxn<|Znx<|Zrg ?_;refine Zm U<|Zv (Dh U U (Ar U (by omega)))<|Zy U<|Znl ?_;refine Zlr ⟨j,by omega⟩ (by show j<i.1;omega) ⟨U,iv ?_,U,U,trivial⟩ [] 0 U U;rw[hq,hb];rw[hb] at hu;unfold U32 at hu;rw[L8,L8];omega
 ·have hq:i.1=lo:=by have:=i.2;omega
  exact ik (by rw[hq])
theorem AN (n:Int) (h0:0≤n:=by decide) (h:n≤31:=by decide):Sp Tryz.prog 112 [.int .i64 n] [] fun K=>K (.returned (.int .u32 (2 ^ n.toNat))) []:=by have:=Pf n.toNat (by omega);rw[Int.toNat_of_nonneg h0] at this;exact this
theorem Bu (w hi lo:Int) (hw:U32 w:=by assumption) (h0:0≤lo:=by decide) (h1:lo≤hi:=by decide) (h2:hi≤31:=by decide):Sp Tryz.prog 110 [.int .u32 w,.int .i64 hi,.int .i64 lo] [] fun K=>K (.returned (.int .u32 (Au w hi.toNat lo.toNat))) []:=by have:=Y4 w hi.toNat lo.toNat hw (by omega) (by omega);rw[Int.toNat_of_nonneg h0,Int.toNat_of_nonneg (Int.le_trans h0 h1)] at this;exact this
@[irreducible] def AA (op:Int):Int:=
 if op=1∨op=2 then 117 else if op=3 then 106 else if op=4∨(11≤op∧op≤15) then 108 else if 5≤op∧op≤10 then 98 else if 16≤op∧op≤18 then 115
 else if 19≤op∧op≤24 then 105 else if 25≤op∧op≤27 then 104 else if(28≤op∧op≤37)∨(40≤op∧op≤47) then 114 else if op=38 then 102 else if op=39 then 101
 else if op=48 then 113 else if 49≤op∧op≤58 then 97 else if op=59 then 99 else 0
theorem N5 (op:Int):Sp Tryz.prog 109 [.int .i64 op] [] fun K=>K (.returned (.int .u8 (AA op))) []:=by
 refine Zen Tryz.func109 U U U fun e X Φ hS=>Zsr<|Zy U<|Znq<|Zbl<|Zsr<|Zb 2 U ?_;refine Zm U<|Zgs U U (fun h6=>?_) (fun h6=>?_);refine Zu' U U (dT h6) U<|Zu' U U (dT h6) U<|Zv (Ax U (dT h6) U)<|Zy U<|Zn<|Zct U<|Zsr<|Zy U<|Znl ?_;refine Zxr<|Zr2<|Zr1<|Zre (.t U .n) hS [] 0 ?_ U U U;rotate_left;refine Zg' U U (dF h6)<|Zm U<|Zg' U U (dF h6)<|Zv (yeq U U)<|Zv (Ao U (dF h6) U)<|Zy U<|Zn<|Zif U (fun h3=>?_) (fun h3=>?_);refine Zsr<|Zy U<|Znr<|Zr2<|Zr1<|Zre (.t U .n) hS [] 0 ?_ U U U;rotate_left;refine Zsr<|Zb 3 U<|Zn<|Zif U (fun h10=>?_) (fun h10=>?_)
 refine Zsr<|Zy U<|Znr<|Zr2<|Zr1<|Zre (.t U .n) hS [] 0 ?_ U U U;rotate_left;refine Zsr<|Zb 3 U<|Zgs U U (fun h16=>?_) (fun h16=>?_);refine Zu' U U (dT h16) U<|Zu' U U (dT h16) U<|Zu' U U (dT h16) U<|Zb 2 U<|Zu' U U (dT h16) U<|Zv (Ax U (dT h16) U)<|Zy U<|Zn ?_;refine Zct U<|Zsr<|Zy U<|Znr<|Zr2<|Zr1<|Zre (.t U .n) hS [] 0 ?_ U U U;rotate_left;refine Zg' U U (dF h16)<|Zm U<|Zg' U U (dF h16)<|Zv (yge U U)<|Zg' U U (dF h16)<|Zm U<|Zgs U U (fun h19=>?_) (fun h19=>?_)
 refine Zg' U U (dT h19)<|Zm U<|Zg' U U (dT h19)<|Zv (yle U U)<|Zg' U U (dF h16)<|Zv (Ax U (dT h19) U)<|Zv (Ao U (dF h16) U)<|Zy U<|Zn ?_;refine Zif U (fun h13=>?_) (fun h13=>?_);refine Zsr<|Zy U<|Znr<|Zr2<|Zr1<|Zre (.t U .n) hS [] 0 ?_ U U U;rotate_left;refine Zsr<|Zb 3 U<|Zg' U U (dT (by omega))<|Zm U<|Zg' U U (dT (by omega))<|Zv (yle U U)<|Zv (Ax U (dT (by omega)) U)<|Zy U ?_;refine Zn<|Df U (dF (by omega))<|Zsr<|Zb 3 U<|Zg' U U (dT (by omega))<|Zm U<|Zg' U U (dT (by omega)) ?_;refine Zv (yle U U)<|Zv (Ax U (dT (by omega)) U)<|Zy U<|Zn<|Zif U (fun h31=>?_) (fun h31=>?_)
 refine Zsr<|Zy U<|Znr<|Zr2<|Zr1<|Zre (.t U .n) hS [] 0 ?_ U U U;rotate_left;refine Zsr<|Zb 3 U<|Zg' U U (dT (by omega))<|Zm U<|Zg' U U (dT (by omega))<|Zv (yle U U)<|Zv (Ax U (dT (by omega)) U)<|Zy U ?_;refine Zn<|Zif U (fun h38=>?_) (fun h38=>?_);refine Zsr<|Zy U<|Znr<|Zr2<|Zr1<|Zre (.t U .n) hS [] 0 ?_ U U U;rotate_left;refine Zsr<|Zb 3 U<|Zg' U U (dT (by omega))<|Zm U<|Zg' U U (dT (by omega))<|Zv (yle U U)<|Zv (Ax U (dT (by omega)) U)<|Zy U ?_;refine Zn<|Zif U (fun h45=>?_) (fun h45=>?_);refine Zsr<|Zy U<|Znr<|Zr2<|Zr1<|Zre (.t U .n) hS [] 0 ?_ U U U;rotate_left
 refine Zsr<|Zb 3 U<|Zg' U U (dT (by omega))<|Zm U<|Zg' U U (dT (by omega))<|Zv (yle U U)<|Zv (Ax U (dT (by omega)) U)<|Zm U ?_;refine Zgs U U (fun h59=>?_) (fun h59=>?_);refine Zu' U U (dT h59) U<|Zu' U U (dT h59) U<|Zu' U U (dT h59) U<|Zb 2 U<|Zu' U U (dT h59) U<|Zv (Ax U (dT h59) U)<|Zy U<|Zn ?_;refine Zct U<|Zsr<|Zy U<|Znr<|Zr2<|Zr1<|Zre (.t U .n) hS [] 0 ?_ U U U;rotate_left;refine Zg' U U (dF h59)<|Zm U<|Zg' U U (dF h59)<|Zv (yge U U)<|Zg' U U (dF h59)<|Zm U<|Zgs U U (fun h62=>?_) (fun h62=>?_)
 refine Zg' U U (dT h62)<|Zm U<|Zg' U U (dT h62)<|Zv (yle U U)<|Zg' U U (dF h59)<|Zv (Ax U (dT h62) U)<|Zv (Ao U (dF h59) U)<|Zy U<|Zn ?_;refine Zif U (fun h52=>?_) (fun h52=>?_);refine Zsr<|Zy U<|Znr<|Zr2<|Zr1<|Zre (.t U .n) hS [] 0 ?_ U U U;rotate_left;refine Zsr<|Zb 3 U<|Zn<|Df U (dF (by omega))<|Zsr<|Zb 2 U ?_;refine Zy U<|Zn<|Df U (dF (by omega))<|Zsr<|Zb 3 U<|Zn ?_;refine Zif U (fun h73=>?_) (fun h73=>?_);refine Zsr<|Zy U<|Znr<|Zr2<|Zr1<|Zre (.t U .n) hS [] 0 ?_ U U U;rotate_left
 refine Zsr<|Zb 3 U<|Zg' U U (dT (by omega))<|Zm U<|Zg' U U (dT (by omega))<|Zv (yle U U)<|Zv (Ax U (dT (by omega)) U)<|Zy U ?_;refine Zn<|Zif U (fun h76=>?_) (fun h76=>?_);refine Zsr<|Zy U<|Znr<|Zr2<|Zr1<|Zre (.t U .n) hS [] 0 ?_ U U U;rotate_left;refine Zsr<|Zb 3 U<|Zn<|Zif U (fun h83=>?_) (fun h83=>?_);refine Zsr<|Zy U<|Znr<|Zr2<|Zr1<|Zre (.t U .n) hS [] 0 ?_ U U U;rotate_left;refine Zsk<|Zxn<|Zxs<|Zy U<|Znr<|Zre (.t U .n) hS [] 0 ?_ U U U;rotate_left;refine Zu' U U (dF h62) U<|Zu' U U (dF h62) U<|Zg' U U (dF h59)<|Zv (Ao U (dF h62) U)<|Zv (Ao U (dF h59) U)<|Zy U<|Zn<|Zcf U<|Zsr ?_
 refine Zb 3 U<|Zn<|Zif U (fun h67=>?_) (fun h67=>?_);refine Zsr<|Zy U<|Znr<|Zr2<|Zr1<|Zre (.t U .n) hS [] 0 ?_ U U U;rotate_left;refine Zsr<|Zb 3 U<|Zn<|DF U (dT (by omega))<|Zsr<|Zy U<|Znl ?_;refine Zxr<|Zr2<|Zr1<|Zre (.t U .n) hS [] 0 ?_ U U U;rotate_left;refine Zu' U U (dF h19) U<|Zu' U U (dF h19) U<|Zg' U U (dF h16)<|Zv (Ao U (dF h19) U)<|Zv (Ao U (dF h16) U)<|Zy U<|Zn<|Zcf U<|Zsr ?_;refine Zb 3 U<|Zgs U U (fun h27=>?_) (fun h27=>?_);refine Zg' U U (dT h27)<|Zm U<|Zg' U U (dT h27)<|Zv (yle U U)<|Zv (Ax U (dT h27) U)<|Zy U<|Zn<|DF U (dT (by omega))<|Zsr ?_
 refine Zy U<|Znr<|Zr2<|Zr1<|Zre (.t U .n) hS [] 0 ?_ U U U;rotate_left;refine Zu' U U (dF h27) U<|Zu' U U (dF h27) U<|Zv (Ao U (dF h27) U)<|Zy U<|Zn<|Zcf U<|Zsr<|Zb 2 U ?_;refine Zm U<|Zu' U U (dF (by omega)) U<|Zu' U U (dF (by omega)) U<|Zv (Ao U (dF (by omega)) U)<|Zy U<|Zn<|Zcf U<|Zsr<|Zm U ?_;refine Zb 2 U<|Zu' U U (dF (by omega)) U<|Zu' U U (dF (by omega)) U<|Zv (Ao U (dF (by omega)) U)<|Zy U<|Zn<|Zcf U<|Zsr ?_;refine Zb 3 U<|Zu' U U (dF (by omega)) U<|Zu' U U (dF (by omega)) U<|Zv (Ao U (dF (by omega)) U)<|Zy U<|Zn<|Zcf U ?_
 refine Zsr<|Zb 3 U<|Zu' U U (dF (by omega)) U<|Zu' U U (dF (by omega)) U<|Zv (Ao U (dF (by omega)) U)<|Zb 2 U ?_;refine Zb 2 U<|Zu' U U (dF (by omega)) U<|Zu' U U (dF (by omega)) U<|Zg U U<|Zv (Ao U (dF (by omega)) U)<|Zb 2 U ?_;refine Zn<|Zcf U<|Zsr<|Zb 3 U<|Zn<|Df U (dF (by omega)) ?_;refine Zsr<|Zb 3 U<|Zn<|Df U (dF (by omega))<|Zsr<|Zb 2 U ?_;refine Zy U<|Zn<|Df U (dF (by omega))<|Zsr<|Zb 3 U<|Zu' U U (dF (by omega)) U<|Zu' U U (dF (by omega)) U ?_;refine Zv (Ao U (dF (by omega)) U)<|Zy U<|Zn<|Zcf U<|Zsr<|Zb 3 U<|Znl ?_
 refine Znx<|Df U (dF (by omega))<|Zsk<|Zxn<|Zxs<|Zy U<|Znr ?_;refine Zre (.t U .n) hS [] 0 ?_ U U U;rotate_left
 all_goals refine ik ?_
 all_goals unfold AA
 all_goals repeat (first|rw[if_neg (by omega)]|rw[if_pos (by omega)])
@[irreducible] def Be (op:Int):Int:=
 if op=1 then 55 else if op=2 then 23 else if op=3 then 111 else if op=4 then 103 else if op≤10 then 99 else if op≤15 then 3 else if op≤18 then 35 else if op≤27 then 19
 else if op≤37∨(40≤op∧op≤47) then 51 else if op=38 then 15 else if op=39∨op=59 then 115 else 47
theorem eY (op:Int):Sp Tryz.prog 152 [.int .i64 op] [] fun K=>K (.returned (.int .u32 (Be op))) []:=by
 refine Zen Tryz.func152 U U U fun e X Φ hS=>Zsr<|Zy U<|Znq<|Zbl<|Zsr<|Zb 2 U ?_;refine Zy U<|Zn<|Zif U (fun h3=>?_) (fun h3=>?_);refine Zsr<|Zy U<|Znr<|Zr2<|Zr1<|Zre (.t U .n) hS [] 0 ?_ U U U;rotate_left;refine Zsr<|Zb 3 U<|Zn<|Zif U (fun h6=>?_) (fun h6=>?_);refine Zsr<|Zy U<|Znr<|Zr2<|Zr1<|Zre (.t U .n) hS [] 0 ?_ U U U;rotate_left;refine Zsr<|Zb 3 U<|Zn<|Zif U (fun h9=>?_) (fun h9=>?_);refine Zsr<|Zy U<|Znr<|Zr2<|Zr1<|Zre (.t U .n) hS [] 0 ?_ U U U;rotate_left;refine Zsr<|Zb 3 U<|Zn<|Zif U (fun h12=>?_) (fun h12=>?_);refine Zsr<|Zy U<|Znr<|Zr2<|Zr1<|Zre (.t U .n) hS [] 0 ?_ U U U
 rotate_left;refine Zsr<|Zb 3 U<|Zn<|Zif U (fun h15=>?_) (fun h15=>?_);refine Zsr<|Zy U<|Znr<|Zr2<|Zr1<|Zre (.t U .n) hS [] 0 ?_ U U U;rotate_left;refine Zsr<|Zb 3 U<|Zn<|Zif U (fun h18=>?_) (fun h18=>?_);refine Zsr<|Zy U<|Znr<|Zr2<|Zr1<|Zre (.t U .n) hS [] 0 ?_ U U U;rotate_left;refine Zsr<|Zb 3 U<|Zn<|Zif U (fun h21=>?_) (fun h21=>?_);refine Zsr<|Zy U<|Znr<|Zr2<|Zr1<|Zre (.t U .n) hS [] 0 ?_ U U U;rotate_left;refine Zsr<|Zb 3 U<|Zn<|Zif U (fun h24=>?_) (fun h24=>?_);refine Zsr<|Zy U<|Znr<|Zr2<|Zr1<|Zre (.t U .n) hS [] 0 ?_ U U U;rotate_left
 refine Zsr<|Zb 3 U<|Zgs U U (fun h30=>?_) (fun h30=>?_);refine Zu' U U (dT h30) U<|Zu' U U (dT h30) U<|Zu' U U (dT h30) U<|Zb 2 U<|Zu' U U (dT h30) U<|Zv (Ax U (dT h30) U)<|Zy U<|Zn ?_;refine Zct U<|Zsr<|Zy U<|Znr<|Zr2<|Zr1<|Zre (.t U .n) hS [] 0 ?_ U U U;rotate_left;refine Zg' U U (dF h30)<|Zm U<|Zg' U U (dF h30)<|Zv (yge U U)<|Zg' U U (dF h30)<|Zm U<|Zgs U U (fun h33=>?_) (fun h33=>?_);refine Zg' U U (dT h33)<|Zm U<|Zg' U U (dT h33)<|Zv (yle U U)<|Zg' U U (dF h30)<|Zv (Ax U (dT h33) U)<|Zv (Ao U (dF h30) U)<|Zy U<|Zn ?_;refine Zif U (fun h27=>?_) (fun h27=>?_)
 refine Zsr<|Zy U<|Znr<|Zr2<|Zr1<|Zre (.t U .n) hS [] 0 ?_ U U U;rotate_left;refine Zsr<|Zb 3 U<|Zn<|Df U (dF (by omega))<|Zsr<|Zb 2 U ?_;refine Zm U<|Zg' U U (dF (by omega))<|Zm U<|Zg' U U (dF (by omega))<|Zv (yeq U U)<|Zv (Ao U (dF (by omega)) U)<|Zy U<|Zn<|Zif U (fun h41=>?_) (fun h41=>?_);refine Zsr<|Zy U<|Znr<|Zr2<|Zr1<|Zre (.t U .n) hS [] 0 ?_ U U U;rotate_left;refine Zsk<|Zxn<|Zxs<|Zy U<|Znr<|Zre (.t U .n) hS [] 0 ?_ U U U;rotate_left;refine Zu' U U (dF h33) U<|Zu' U U (dF h33) U<|Zg' U U (dF h30)<|Zv (Ao U (dF h33) U)<|Zv (Ao U (dF h30) U)<|Zy U<|Zn<|Zcf U<|Zsr ?_
 refine Zb 3 U<|Zn<|Zif U (fun h38=>?_) (fun h38=>?_);refine Zsr<|Zy U<|Znr<|Zr2<|Zr1<|Zre (.t U .n) hS [] 0 ?_ U U U;rotate_left;refine Zsr<|Zb 3 U<|Zu' U U (dT (by omega)) U<|Zu' U U (dT (by omega)) U<|Zv (Ax U (dT (by omega)) U)<|Zy U<|Zn ?_;refine Zct U<|Zsr<|Zy U<|Znr<|Zr2<|Zr1<|Zre (.t U .n) hS [] 0 ?_ U U U;rotate_left
 all_goals refine ik ?_
 all_goals unfold Be
 all_goals repeat (first|rw[if_neg (by omega)]|rw[if_pos (by omega)])
def f3L:List Int:=[0,0,0,0,0,0,1,4,5,6,7,0,1,2,4,5,0,1,2,0,2,3,4,6,7,1,5,5,0,0,1,2,3,4,5,5,6,7,0,0,0,1,2,3,4,5,6,7,2,2,2,2,2,2,2,2,2,2,2,2]
def f7L:List Int:=[2,3,1,0,4,12,8,16,20,24,28]
theorem Wz {us:List Int} {k:Nat} (h:k<us.length):nth (wds us) k=some (.int .u32 (us.getD k 0)):=by rw[A7];unfold wds;rw[List.getElem?_map,List.getElem?_eq_getElem h];simp[List.getD,h]
theorem Zi (k:Nat) (h:k<60:=by omega):Sp Tryz.prog 153 [.int .i64 (k:Int)] [] fun K=>K (.returned (.int .u32 (f3L.getD k 0))) []:=by have hw:=@Wz f3L k h;refine Zen Tryz.func153 U U U fun e X Φ hS=>Zsr<|Zy U<|Zns ?_;refine Ze (ebc f3L U (by decide) (by decide) (by kernel_rfl)) fun b=>Zw<|Zy U<|Zns<|Zb 2 U ?_;refine Zv (yeb (s:=1) (j:=k) k Tryz.underlying62 U U (by omega) (by omega)) ?_;refine Zv (yd 0 U U hw)<|Zy U<|Znr<|Zre (.t U .n) hS [] 1 U U U U
def Gq (n:Int) (many:Nat):Int:=if 2 ^ (many-1)≤n then w32 (n-2 ^ (many-1)*2) else n
theorem Y5 (n:Int) (many:Nat) (hn:U32 n:=by assumption) (h:1≤many∧many≤31:=by decide):Sp Tryz.prog 111 [.int .u32 n,.int .i64 (many:Int)] [] fun K=>K (.returned (.int .u32 (Gq n many))) []:=by
 have hp:=Tp (many-1) (by omega);have h1:(many:Int)-1=((many-1:Nat):Int):=by omega
 refine Zen Tryz.func111 U U U fun e X Φ hS=>Zsr<|Zy U<|Aj<|Zb 2 U<|Zv (Dh U U (Ar U (by omega))) ?_;rw[h1];refine Zk (Pf (many-1) (by omega)) [] U U<|Zq<|Zv (yge U U)<|Zn<|Zif U (fun h9=>?_) (fun h9=>?_);refine Zsr<|Zm U<|Zv (ycv Tryz.underlying40 Tryz.underlying2 U U)<|Zm U<|Zv (Dh U U (Ar U (by omega))) ?_;rotate_left;refine Zks<|Zb 2 U<|Znr<|Zre (.t U .n) hS [] 0 ?_ U U U;rotate_left
 ·rw[h1];refine Zk (Pf (many-1) (by omega)) [] U U<|Zq<|Zv (ycv Tryz.underlying40 Tryz.underlying2 U (Ar U (by omega)))<|Zv (AD U U (Ar U (by omega)))<|Zv (Dh U U U) ?_;have hn':=hn;unfold U32 at hn';rw[aQ hn,show IntKind.i64.wrap (n-2 ^ (many-1)*2)=n-2 ^ (many-1)*2 from aP ⟨by omega,by omega⟩];refine Zk (eQ _ (by omega)) [] U U<|Zq<|Zy U<|Znr<|Zr1<|Zre (.t U .n) hS [] 0 ?_ U U U;exact ik (if_pos h9).symm
 ·exact ik (if_neg h9).symm
def f7F (k:Nat):Int:=if k=27∨k=29∨k=35 then 32 else if 40≤k∧k≤47 then 1 else if 48≤k∧k≤58 then 4*f7L.getD (k-48) 0 else 0
theorem iY:∀j:_root_.Fin 11,IntKind.u32.wrap (4*f7L.getD j.1 0)=4*f7L.getD j.1 0:=by decide+kernel
theorem Zj (k:Nat) (h:k<60:=by omega):Sp Tryz.prog 154 [.int .i64 (k:Int)] [] fun K=>K (.returned (.int .u32 (f7F k))) []:=by
 refine Zen Tryz.func154 U U U fun e X Φ hS=>Zsr<|Zy U<|Znq<|Zbl<|Zsr<|Zb 2 U ?_;refine Zm U<|Zgs U U (fun h7=>?_) (fun h7=>?_);refine Zu' U U (dT h7) U<|Zu' U U (dT h7) U<|Zv (Ax U (dT h7) U)<|Zb 5 U<|Zn ?_;refine Zct U<|Zsr<|Zy U<|Znr<|Zr2<|Zr1<|Zre (.t U .n) hS [] 0 ?_ U U U;rotate_left;refine Zg' U U (dF h7)<|Zm U<|Zg' U U (dF h7)<|Zv (yeq U U)<|Zv (Ao U (dF h7) U)<|Zm U<|Zgs U U (fun h11=>?_) (fun h11=>?_);refine Zu' U U (dT h11) U<|Zu' U U (dT h11) U<|Zv (Ax U (dT h11) U)<|Zy U<|Zn<|Zct U<|Zsr<|Zy U<|Znl ?_;refine Zxr<|Zr2<|Zr1<|Zre (.t U .n) hS [] 0 ?_ U U U;rotate_left
 refine Zg' U U (dF h11)<|Zm U<|Zg' U U (dF h11)<|Zv (yeq U U)<|Zv (Ao U (dF h11) U)<|Zy U<|Zn<|Zif U (fun h4=>?_) (fun h4=>?_);refine Zsr<|Zy U<|Znr<|Zr2<|Zr1<|Zre (.t U .n) hS [] 0 ?_ U U U;rotate_left;refine Zsr<|Zb 3 U<|Zgs U U (fun h18=>?_) (fun h18=>?_);refine Zg' U U (dT h18)<|Zm U<|Zg' U U (dT h18)<|Zv (yle U U)<|Zv (Ax U (dT h18) U)<|Zy U<|Zn<|Zif U (fun h15=>?_) (fun h15=>?_);refine Zsr<|Zy U<|Znr<|Zr2<|Zr1<|Zre (.t U .n) hS [] 0 ?_ U U U;rotate_left;refine Zsr<|Zb 3 U<|Zg' U U (dT (by omega))<|Zm U<|Zg' U U (dT (by omega))<|Zv (yle U U)<|Zv (Ax U (dT (by omega)) U)<|Zy U ?_
 refine Zn<|Zif U (fun h22=>?_) (fun h22=>?_);refine Zsr ?_;rotate_left;refine Zsk<|Zxn<|Zxs<|Zy U<|Znr<|Zre (.t U .n) hS [] 0 ?_ U U U;rotate_left;refine Zu' U U (dF h18) U<|Zu' U U (dF h18) U<|Zv (Ao U (dF h18) U)<|Zy U<|Zn<|Zcf U<|Zsr<|Zb 2 U ?_;refine Zm U<|Zu' U U (dF (by omega)) U<|Zu' U U (dF (by omega)) U<|Zv (Ao U (dF (by omega)) U)<|Zy U<|Zn<|Zcf U<|Zsk<|Zxn ?_;refine Zxs<|Zy U<|Znr<|Zre (.t U .n) hS [] 0 ?_ U U U;rotate_left
 all_goals try (refine ik ?_;unfold f7F;repeat (first|rw[if_neg (by omega)]|rw[if_pos (by omega)]))
 have e1:(k:Int)-48=((k-48:Nat):Int):=by omega
 have hk:k-48<f7L.length:=by show k-48<11;omega
 have hw:=@Wz f7L (k-48) hk;have hb:=iY ⟨k-48,hk⟩;refine Ze (ebc f7L U (by decide) (by decide) (by kernel_rfl)) fun b=>Zw<|Zy U<|Zns<|Zb 2 U<|Zv (Dh U U (Ar U (by omega))) ?_;rw[e1];refine Zv (yeb (s:=1) (j:=k-48) (k-48) Tryz.underlying62 U U (by omega) (by omega)) ?_;refine Zv (yd 0 U U hw)<|Zv (AD U U U)<|Zy U<|Znr<|Zr2<|Zr1<|Zre (.t U .n) hS [] 1 ?_ U U U;refine ik ?_;rw[hb];unfold f7F;rw[if_neg (by omega),if_neg (by omega),if_pos (by omega)]
theorem RK (n many:Int) (hn:U32 n:=by first|assumption|exact BK _|exact I5 (by assumption) _ _) (h:1≤many∧many≤31:=by decide):Sp Tryz.prog 111 [.int .u32 n,.int .i64 many] [] fun K=>K (.returned (.int .u32 (Gq n many.toNat))) []:=by have:=Y5 n many.toNat hn (by omega);rw[Int.toNat_of_nonneg (by omega)] at this;exact this
theorem eZ (op:Int) (h:0≤op∧op<60:=by assumption):Sp Tryz.prog 153 [.int .i64 op] [] fun K=>K (.returned (.int .u32 (f3L.getD op.toNat 0))) []:=by have:=Zi op.toNat (by omega);rw[Int.toNat_of_nonneg h.1] at this;exact this
theorem Ew (op:Int) (h:0≤op∧op<60:=by assumption):Sp Tryz.prog 154 [.int .i64 op] [] fun K=>K (.returned (.int .u32 (f7F op.toNat))) []:=by have:=Zj op.toNat (by omega);rw[Int.toNat_of_nonneg h.1] at this;exact this
def Qv (f:Int) (i:Ins):Bool:=
 decide (f=0) || decide ((i.rd:Int)<0) || decide (31<(i.rd:Int)) || decide ((i.rs1:Int)<0) || decide (31<(i.rs1:Int)) || decide ((i.rs2:Int)<0) || decide (31<(i.rs2:Int)) ||
 !(decide (f≠98) && decide (f≠115) && decide (f≠102) && decide (f≠101)) && decide ((i.rd:Int)≠0) ||
 !(decide (f≠117) && decide (f≠106) && decide (f≠102) && decide (f≠101) && decide (f≠99)) && decide ((i.rs1:Int)≠0) ||
 !(decide (f=98) || decide (f=115) || decide (f=114) || decide (f=97)) && decide ((i.rs2:Int)≠0) ||
 decide (f≠97) && decide (f≠113) && (i.aq || i.rl)
def M6 (f:Int) (i:Ins):Bool:=
 if f=117 then decide (i.imm.tmod 4096=0) else if f=106 then decide ((sgn i.imm).tmod 2=0) && decide (-1048576≤sgn i.imm) && decide (sgn i.imm≤1048574)
 else if f=98 then decide ((sgn i.imm).tmod 2=0) && decide (-4096≤sgn i.imm) && decide (sgn i.imm≤4094)
 else if f=105∨f=108∨f=115 then decide (-2048≤sgn i.imm) && decide (sgn i.imm≤2047)
 else if f=104 then decide (0≤sgn i.imm) && decide (sgn i.imm≤31) else if f=102 then decide (0≤sgn i.imm) && decide (sgn i.imm≤255) else decide (i.imm=0)
def Oq (i:Ins):Bool:=bif Qv (AA i.op) i then false else M6 (AA i.op) i
theorem bK {i:Ins} (h:Qv (AA i.op) i=true):false=Oq i:=by unfold Oq;rw[h];rfl
theorem bJ {i:Ins} (h:Qv (AA i.op) i=false):Oq i=M6 (AA i.op) i:=by unfold Oq;rw[h];rfl
theorem eF (i:Ins) (hi:U32 i.imm:=by assumption):Sp Tryz.prog 113 [.agg (En.arr i)] [] fun K=>K (.returned (.bool (Oq i))) []:=by
  refine Zen Tryz.func113 U U U fun e X Φ hS=>Zsr<|Ze (A8 U) fun b1=>Zw<|Zy U<|Zns<|Za 3 [0,0] U U ?_;refine Zns<|Zm U<|Zk (N5 ..) [] U U<|Zq<|Zy U<|Zns ?_;refine Zb 3 U<|Zc 12 [] U U<|Zns<|Zb 3 U ?_;refine Zc 16 [] U U<|Zns<|Zb 3 U<|Zc 12 [] U U<|Zn ?_;refine Zsq<|Zsr<|Zb 3 U<|Zc 72 [1,0,1,0,2,0,2,0,3,0,3,0,1,0,2,0,3,0,5,0,6,0] U U<|Zn<|Zib U (fun h133=>?_) (fun h133=>?_);refine Zsr<|Zy U<|Znr<|Zr1<|Zre (.t U .n) hS [] 1 ?_ U U U;rotate_left;refine Zks<|Za 2 [4,0] U U<|Zk (eP ..) [] U U<|Zq<|Zy U<|Zn ?_;refine Zsq<|Zsr<|Zm U<|Znb<|Zsr<|Zb 2 U<|Znl ?_
  refine Znx<|Zif U (fun h138=>?_) (fun h138=>?_);refine Zsr<|Za 2 [4,0] U U<|Zv (Cc U U (by decide) U)<|Zb 2 U<|Znr<|Zr2 ?_;refine Zr1<|Zre (.t U .n) hS [] 1 ?_ U U U;rotate_left;refine Zsr<|Zb 2 U<|Zn<|Zif U (fun h144=>?_) (fun h144=>?_);refine Zsr<|Zm U<|Zv (Cc U U (by decide) U)<|Zb 2 U<|Zc 8 [] U U<|Znr<|Zr2 ?_;refine Zr1<|Zre (.t U .n) hS [] 1 ?_ U U U;rotate_left;refine Zsr<|Zb 2 U<|Zn<|Zif U (fun h157=>?_) (fun h157=>?_);refine Zsr<|Zm U<|Zv (Cc U U (by decide) U)<|Zb 2 U<|Zc 8 [] U U<|Znr<|Zr2 ?_;refine Zr1<|Zre (.t U .n) hS [] 1 ?_ U U U;rotate_left
  refine Zsq<|Zsr<|Zb 2 U<|Zn<|Zif U (fun h170=>?_) (fun h170=>?_);refine Zkn<|DF U (dT h170)<|Zsr<|Zb 3 U<|Zc 4 [] U U<|Zn ?_;refine Zrt<|Zr2<|Zr1<|Zre (.t U .n) hS [] 1 ?_ U U U;rotate_left;refine Zsr<|Zb 2 U<|Zn<|Zif U (fun h170=>?_) (fun h170=>?_);refine Zkn<|DF U (dT h170)<|Zsr<|Zb 3 U<|Zc 4 [] U U<|Zn ?_;refine Zrt<|Zr2<|Zr1<|Zre (.t U .n) hS [] 1 ?_ U U U;rotate_left;refine Zrg<|Zb 2 U<|Zn<|Zif U (fun h170=>?_) (fun h170=>?_);refine Zsr<|Zb 3 U<|Zc 4 [] U U<|Znr<|Zr2<|Zr1 ?_;refine Zre (.t U .n) hS [] 1 ?_ U U U;rotate_left
  refine Zsr<|Zb 2 U<|Zn<|Zif U (fun h180=>?_) (fun h180=>?_);refine Zsr<|Zb 3 U<|Zc 4 [] U U<|Znr<|Zr2<|Zr1 ?_;refine Zre (.t U .n) hS [] 1 ?_ U U U;rotate_left;refine Zsr<|Zb 2 U<|Zn<|Zif U (fun h188=>?_) (fun h188=>?_);refine Zsr<|Zb 3 U<|Zc 4 [] U U<|Znr<|Zr2<|Zr1 ?_;refine Zre (.t U .n) hS [] 1 ?_ U U U;rotate_left;refine Zsk<|Zxn<|Zxs<|Za 4 [4,0] U U<|Zn ?_;refine Zrt<|Zre (.t U .n) hS [] 1 ?_ U U U;rotate_left
  all_goals first
    | exact congrArg Value.bool (bK h133)
    | (refine congrArg Value.bool ?_
       rw[bJ h133];unfold M6
       repeat (first|rw[if_neg (by omega)]|rw[if_pos (by omega)]))
def F0 (f:Int) (i:Ins):Int:=
 (if f=117∨f=106 then Be i.op else Be i.op+f3L.getD i.op.toNat 0*4096)+(i.rd:Int)*128+(i.rs1:Int)*32768+(i.rs2:Int)*1048576 +
 (if f=117 then i.imm else if f=106 then Au i.imm 20 20*2147483648+Au i.imm 10 1*2097152+Au i.imm 11 11*1048576+Au i.imm 19 12*4096
 else if f=98 then Au i.imm 12 12*2147483648+Au i.imm 10 5*33554432+Au i.imm 4 1*256+Au i.imm 11 11*128
 else if f=115 then Au i.imm 11 5*33554432+Au i.imm 4 0*128 else if f=105∨f=108 then Au i.imm 11 0*1048576
 else if f=104 then f7F i.op.toNat*33554432+i.imm*1048576 else if f=102 then i.imm*1048576 else if f=99 then 4047503360
 else(if f=97∨f=113 then(bif i.aq then 67108864 else 0)+(bif i.rl then 33554432 else 0) else 0)+f7F i.op.toNat*33554432)
theorem p2s:(2:Int) ^ Int.toNat 31=2147483648∧(2:Int) ^ Int.toNat 26=67108864∧(2:Int) ^ Int.toNat 25=33554432∧(2:Int) ^ Int.toNat 21=2097152∧(2:Int) ^ Int.toNat 20=1048576∧(2:Int) ^ Int.toNat 12=4096∧(2:Int) ^ Int.toNat 8=256∧(2:Int) ^ Int.toNat 7=128:=⟨rfl,rfl,rfl,rfl,rfl,rfl,rfl,rfl⟩
theorem tns:Int.toNat 0=0∧Int.toNat 1=1∧Int.toNat 4=4∧Int.toNat 5=5∧Int.toNat 10=10∧Int.toNat 11=11∧Int.toNat 12=12∧Int.toNat 19=19∧Int.toNat 20=20:=⟨rfl,rfl,rfl,rfl,rfl,rfl,rfl,rfl,rfl⟩
theorem mm (x c:Int):x%4294967296*c%4294967296=x*c%4294967296:=by rw[Int.mul_emod,Int.emod_emod,←Int.mul_emod]
theorem eG (i:Ins) (h:0≤i.op∧i.op<60:=by assumption) (hi:U32 i.imm:=by assumption):Sp Tryz.prog 114 [.agg (En.arr i)] [] fun K=>K (.returned (.int .u32 (w32 (F0 (AA i.op) i)))) []:=by
 refine Zen Tryz.func114 U U U fun e X Φ hS=>Zsr<|Ze (A8 U) fun b1=>Zw<|Zy U<|Zns<|Za 3 [0,0] U U ?_;refine Zns<|Za 3 [4,0] U U<|Zns<|Zm U ?_;refine Zk (eY ..) [] U U<|Zq<|Zy U<|Aj<|Zm U<|Zk (N5 ..) [] U U<|Zq ?_;refine Zb 2 U<|Zgs U U (fun h15=>?_) (fun h15=>?_);refine Zg' U U (dT h15)<|Zm U<|Zg' U U (dT h15)<|Zk (N5 ..) [] U U<|Zq<|Zc 2 [] U U<|Zn<|Zib U (fun h19=>?_) (fun h19=>?_);refine Zrg<|Zb 2 U<|Zk (eZ ..) [] U U<|Zq<|Zv (AD U U U)<|Zv (Ac U U U)<|Zy U<|Zn ?_
 refine Zsr<|Za 3 [1,0] U U<|Zv (ycv Tryz.underlying3 Tryz.underlying40 U U)<|Zv (AD U U U)<|Zv (Ac U U U)<|Za 2 [2,0] U U<|Zv (ycv Tryz.underlying3 Tryz.underlying40 U U) ?_;refine Zv (AD U U U)<|Zv (Ac U U U)<|Za 2 [3,0] U U<|Zv (ycv Tryz.underlying3 Tryz.underlying40 U U)<|Zv (AD U U U)<|Zv (Ac U U U)<|Zy U<|Zn ?_;refine Zsq<|Zsr<|Zm U<|Zk (N5 ..) [] U U<|Zq<|Znb<|Zsr<|Zv (yeq U U) ?_;refine Zy U<|Zn<|Df U (dF h15)<|Zsr<|Zb 2 U<|Zn<|Zif U (fun h48=>?_) (fun h48=>?_)
 refine Zsr<|Zb 2 U<|Zk (Bu ..) [] U U<|Zq<|Zk (AN ..) [] U U<|Zq<|Zv (AD U U U)<|Zv (Ac U U U)<|Zm U ?_;refine Zk (Bu ..) [] U U<|Zq<|Zk (AN ..) [] U U<|Zq<|Zv (AD U U U)<|Zv (Ac U U U)<|Zm U<|Zk (Bu ..) [] U U<|Zq<|Zk (AN ..) [] U U ?_;refine Zq<|Zv (AD U U U)<|Zv (Ac U U U)<|Zm U<|Zk (Bu ..) [] U U<|Zq<|Zk (AN ..) [] U U<|Zq<|Zv (AD U U U)<|Zv (Ac U U U) ?_;refine Zy U<|Znr<|Zr2<|Zr1<|Zre (.t U .n) hS [] 1 ?_ U U U;rotate_left;refine Zsr<|Zb 2 U<|Zn<|Zif U (fun h71=>?_) (fun h71=>?_)
 refine Zsr<|Zb 2 U<|Zk (Bu ..) [] U U<|Zq<|Zk (AN ..) [] U U<|Zq<|Zv (AD U U U)<|Zv (Ac U U U)<|Zm U ?_;refine Zk (Bu ..) [] U U<|Zq<|Zk (AN ..) [] U U<|Zq<|Zv (AD U U U)<|Zv (Ac U U U)<|Zm U<|Zk (Bu ..) [] U U<|Zq<|Zk (AN ..) [] U U ?_;refine Zq<|Zv (AD U U U)<|Zv (Ac U U U)<|Zm U<|Zk (Bu ..) [] U U<|Zq<|Zk (AN ..) [] U U<|Zq<|Zv (AD U U U)<|Zv (Ac U U U) ?_;refine Zy U<|Znr<|Zr2<|Zr1<|Zre (.t U .n) hS [] 1 ?_ U U U;rotate_left;refine Zsr<|Zb 2 U<|Zn<|Zif U (fun h94=>?_) (fun h94=>?_)
 refine Zsr<|Zb 2 U<|Zk (Bu ..) [] U U<|Zq<|Zk (AN ..) [] U U<|Zq<|Zv (AD U U U)<|Zv (Ac U U U)<|Zm U ?_;refine Zk (Bu ..) [] U U<|Zq<|Zk (AN ..) [] U U<|Zq<|Zv (AD U U U)<|Zv (Ac U U U)<|Zy U<|Znr ?_;refine Zr2<|Zr1<|Zre (.t U .n) hS [] 1 ?_ U U U;rotate_left;refine Zsq<|Zsr<|Zb 2 U<|Zn<|Zif U (fun h107=>?_) (fun h107=>?_);refine Zkn<|DF U (dT h107)<|Zsr<|Zb 2 U<|Zk (Bu ..) [] U U<|Zq<|Zk (AN ..) [] U U<|Zq ?_;refine Zv (AD U U U)<|Zv (Ac U U U)<|Zy U<|Znr<|Zr2<|Zr1<|Zre (.t U .n) hS [] 1 ?_ U U U;rotate_left
 refine Zrg<|Zb 2 U<|Zn<|Zif U (fun h107=>?_) (fun h107=>?_);refine Zsr<|Zb 2 U<|Zk (Bu ..) [] U U<|Zq<|Zk (AN ..) [] U U<|Zq<|Zv (AD U U U)<|Zv (Ac U U U)<|Zy U ?_;refine Znr<|Zr2<|Zr1<|Zre (.t U .n) hS [] 1 ?_ U U U;rotate_left;refine Zsr<|Zb 2 U<|Zn<|Zif U (fun h116=>?_) (fun h116=>?_);refine Zsr<|Zb 2 U<|Zk (Ew ..) [] U U<|Zq<|Zk (AN ..) [] U U<|Zq<|Zv (AD U U U)<|Zv (Ac U U U)<|Zm U ?_;refine Zk (AN ..) [] U U<|Zq<|Zv (AD U U U)<|Zv (Ac U U U)<|Zy U<|Znr<|Zr2<|Zr1 ?_;refine Zre (.t U .n) hS [] 1 ?_ U U U;rotate_left
 refine Zsr<|Zb 2 U<|Zn<|Zif U (fun h128=>?_) (fun h128=>?_);refine Zsr<|Zb 2 U<|Zk (AN ..) [] U U<|Zq<|Zv (AD U U U)<|Zv (Ac U U U)<|Zy U<|Zn ?_;refine Zrt<|Zr2<|Zr1<|Zre (.t U .n) hS [] 1 ?_ U U U;rotate_left;refine Zsr<|Zb 2 U<|Zn<|Zif U (fun h135=>?_) (fun h135=>?_);refine Zsr<|Zm U<|Zk (AN ..) [] U U<|Zq<|Zv (AD U U U)<|Zv (Ac U U U)<|Zy U<|Znr ?_;refine Zr2<|Zr1<|Zre (.t U .n) hS [] 1 ?_ U U U;rotate_left;refine Zsq<|Zsr<|Zb 2 U<|Zn<|Zif U (fun h141=>?_) (fun h141=>?_);refine Zkn<|DF U (dT h141)<|Zsq<|Zsr<|Za 2 [5,0] U U<|Zn<|Zib U (fun h145=>?_) (fun h145=>?_)
 refine Zrg<|Zm U<|Zk (AN ..) [] U U<|Zq<|Zv (Ac U U U)<|Zy U<|Zns<|Zv (yf 6 U) ?_;refine Zv (yd 0 U U U)<|Zn<|Zib U (fun h150=>?_) (fun h150=>?_);refine Zrg<|Zm U<|Zk (AN ..) [] U U<|Zq<|Zv (Ac U U U)<|Zy U<|Znl<|Zxn<|Zxs ?_;refine Zb 2 U<|Zk (Ew ..) [] U U<|Zq<|Zk (AN ..) [] U U<|Zq<|Zv (AD U U U)<|Zv (Ac U U U)<|Zy U<|Znl ?_;refine Zxr<|Zre (.t U .n) hS [] 1 ?_ U U U;rotate_left;refine Zsk<|Zxn<|Zxs<|Zb 2 U<|Zk (Ew ..) [] U U<|Zq<|Zk (AN ..) [] U U<|Zq ?_;refine Zv (AD U U U)<|Zv (Ac U U U)<|Zy U<|Znr<|Zre (.t U .n) hS [] 1 ?_ U U U;rotate_left
 refine Zks<|Za 2 [6,0] U U<|Zn<|Zib U (fun h150=>?_) (fun h150=>?_);refine Zrg<|Zm U<|Zk (AN ..) [] U U<|Zq<|Zv (Ac U U U)<|Zy U<|Znl<|Zxn<|Zxs ?_;refine Zb 2 U<|Zk (Ew ..) [] U U<|Zq<|Zk (AN ..) [] U U<|Zq<|Zv (AD U U U)<|Zv (Ac U U U)<|Zy U<|Znl ?_;refine Zxr<|Zre (.t U .n) hS [] 1 ?_ U U U;rotate_left;refine Zsk<|Zxn<|Zxs<|Zb 2 U<|Zk (Ew ..) [] U U<|Zq<|Zk (AN ..) [] U U<|Zq ?_;refine Zv (AD U U U)<|Zv (Ac U U U)<|Zy U<|Znr<|Zre (.t U .n) hS [] 1 ?_ U U U;rotate_left;refine Zrg<|Zb 2 U<|Zn<|Zif U (fun h141=>?_) (fun h141=>?_)
 refine Zsq<|Zsr<|Za 2 [5,0] U U<|Zn<|Zib U (fun h145=>?_) (fun h145=>?_);refine Zrg<|Zm U<|Zk (AN ..) [] U U<|Zq<|Zv (Ac U U U)<|Zy U<|Zns<|Zv (yf 6 U) ?_;refine Zv (yd 0 U U U)<|Zn<|Zib U (fun h150=>?_) (fun h150=>?_);refine Zrg<|Zm U<|Zk (AN ..) [] U U<|Zq<|Zv (Ac U U U)<|Zy U<|Znl<|Zxn<|Zxs ?_;refine Zb 2 U<|Zk (Ew ..) [] U U<|Zq<|Zk (AN ..) [] U U<|Zq<|Zv (AD U U U)<|Zv (Ac U U U)<|Zy U<|Znl ?_;refine Zxr<|Zre (.t U .n) hS [] 1 ?_ U U U;rotate_left;refine Zsk<|Zxn<|Zxs<|Zb 2 U<|Zk (Ew ..) [] U U<|Zq<|Zk (AN ..) [] U U<|Zq ?_
 refine Zv (AD U U U)<|Zv (Ac U U U)<|Zy U<|Znr<|Zre (.t U .n) hS [] 1 ?_ U U U;rotate_left;refine Zks<|Za 2 [6,0] U U<|Zn<|Zib U (fun h150=>?_) (fun h150=>?_);refine Zrg<|Zm U<|Zk (AN ..) [] U U<|Zq<|Zv (Ac U U U)<|Zy U<|Znl<|Zxn<|Zxs ?_;refine Zb 2 U<|Zk (Ew ..) [] U U<|Zq<|Zk (AN ..) [] U U<|Zq<|Zv (AD U U U)<|Zv (Ac U U U)<|Zy U<|Znl ?_;refine Zxr<|Zre (.t U .n) hS [] 1 ?_ U U U;rotate_left;refine Zsk<|Zxn<|Zxs<|Zb 2 U<|Zk (Ew ..) [] U U<|Zq<|Zk (AN ..) [] U U<|Zq ?_;refine Zv (AD U U U)<|Zv (Ac U U U)<|Zy U<|Znr<|Zre (.t U .n) hS [] 1 ?_ U U U;rotate_left
 refine Zsk<|Zxn<|Zxs<|Zb 2 U<|Zk (Ew ..) [] U U<|Zq<|Zk (AN ..) [] U U<|Zq ?_;refine Zv (AD U U U)<|Zv (Ac U U U)<|Zy U<|Znr<|Zre (.t U .n) hS [] 1 ?_ U U U;rotate_left;refine Zks<|Za 3 [1,0] U U<|Zv (ycv Tryz.underlying3 Tryz.underlying40 U U)<|Zv (AD U U U)<|Zv (Ac U U U)<|Zv (yf 2 U) ?_;refine Zv (yd 0 U U U)<|Zv (ycv Tryz.underlying3 Tryz.underlying40 U U)<|Zv (AD U U U)<|Zv (Ac U U U)<|Za 2 [3,0] U U<|Zv (ycv Tryz.underlying3 Tryz.underlying40 U U)<|Zv (AD U U U)<|Zv (Ac U U U)<|Zy U ?_;refine Aj<|Zm U<|Zk (N5 ..) [] U U<|Zq<|Znb ?_
 refine Zsr<|Zb 2 U<|Zn<|Df U (dF h15)<|Zsr<|Zb 2 U<|Znl ?_;refine Znx<|Zif U (fun h48=>?_) (fun h48=>?_);refine Zsr<|Zb 2 U<|Zk (Bu ..) [] U U<|Zq<|Zk (AN ..) [] U U<|Zq<|Zv (AD U U U)<|Zv (Ac U U U)<|Zm U ?_;refine Zk (Bu ..) [] U U<|Zq<|Zk (AN ..) [] U U<|Zq<|Zv (AD U U U)<|Zv (Ac U U U)<|Zm U<|Zk (Bu ..) [] U U<|Zq<|Zk (AN ..) [] U U ?_;refine Zq<|Zv (AD U U U)<|Zv (Ac U U U)<|Zm U<|Zk (Bu ..) [] U U<|Zq<|Zk (AN ..) [] U U<|Zq<|Zv (AD U U U)<|Zv (Ac U U U) ?_;refine Zy U<|Znr<|Zr2<|Zr1<|Zre (.t U .n) hS [] 1 ?_ U U U;rotate_left
 refine Zsr<|Zb 2 U<|Zn<|Zif U (fun h71=>?_) (fun h71=>?_);refine Zsr<|Zb 2 U<|Zk (Bu ..) [] U U<|Zq<|Zk (AN ..) [] U U<|Zq<|Zv (AD U U U)<|Zv (Ac U U U)<|Zm U ?_;refine Zk (Bu ..) [] U U<|Zq<|Zk (AN ..) [] U U<|Zq<|Zv (AD U U U)<|Zv (Ac U U U)<|Zm U<|Zk (Bu ..) [] U U<|Zq<|Zk (AN ..) [] U U ?_;refine Zq<|Zv (AD U U U)<|Zv (Ac U U U)<|Zm U<|Zk (Bu ..) [] U U<|Zq<|Zk (AN ..) [] U U<|Zq<|Zv (AD U U U)<|Zv (Ac U U U) ?_;refine Zy U<|Znr<|Zr2<|Zr1<|Zre (.t U .n) hS [] 1 ?_ U U U;rotate_left;refine Zsr<|Zb 2 U<|Zn<|Zif U (fun h94=>?_) (fun h94=>?_)
 refine Zsr<|Zb 2 U<|Zk (Bu ..) [] U U<|Zq<|Zk (AN ..) [] U U<|Zq<|Zv (AD U U U)<|Zv (Ac U U U)<|Zm U ?_;refine Zk (Bu ..) [] U U<|Zq<|Zk (AN ..) [] U U<|Zq<|Zv (AD U U U)<|Zv (Ac U U U)<|Zy U<|Znr ?_;refine Zr2<|Zr1<|Zre (.t U .n) hS [] 1 ?_ U U U;rotate_left;refine Zsq<|Zsr<|Zb 2 U<|Zn<|Zif U (fun h107=>?_) (fun h107=>?_);refine Zkn<|DF U (dT h107)<|Zsr<|Zb 2 U<|Zk (Bu ..) [] U U<|Zq<|Zk (AN ..) [] U U<|Zq ?_;refine Zv (AD U U U)<|Zv (Ac U U U)<|Zy U<|Znr<|Zr2<|Zr1<|Zre (.t U .n) hS [] 1 ?_ U U U;rotate_left
 refine Zrg<|Zb 2 U<|Zn<|Zif U (fun h107=>?_) (fun h107=>?_);refine Zsr<|Zb 2 U<|Zk (Bu ..) [] U U<|Zq<|Zk (AN ..) [] U U<|Zq<|Zv (AD U U U)<|Zv (Ac U U U)<|Zy U ?_;refine Znr<|Zr2<|Zr1<|Zre (.t U .n) hS [] 1 ?_ U U U;rotate_left;refine Zsr<|Zb 2 U<|Zn<|Zif U (fun h116=>?_) (fun h116=>?_);refine Zsr<|Zb 2 U<|Zk (Ew ..) [] U U<|Zq<|Zk (AN ..) [] U U<|Zq<|Zv (AD U U U)<|Zv (Ac U U U)<|Zm U ?_;refine Zk (AN ..) [] U U<|Zq<|Zv (AD U U U)<|Zv (Ac U U U)<|Zy U<|Znr<|Zr2<|Zr1 ?_;refine Zre (.t U .n) hS [] 1 ?_ U U U;rotate_left
 refine Zsr<|Zb 2 U<|Zn<|Zif U (fun h128=>?_) (fun h128=>?_);refine Zsr<|Zb 2 U<|Zk (AN ..) [] U U<|Zq<|Zv (AD U U U)<|Zv (Ac U U U)<|Zy U<|Zn ?_;refine Zrt<|Zr2<|Zr1<|Zre (.t U .n) hS [] 1 ?_ U U U;rotate_left;refine Zsr<|Zb 2 U<|Zn<|Zif U (fun h135=>?_) (fun h135=>?_);refine Zsr<|Zm U<|Zk (AN ..) [] U U<|Zq<|Zv (AD U U U)<|Zv (Ac U U U)<|Zy U<|Znr ?_;refine Zr2<|Zr1<|Zre (.t U .n) hS [] 1 ?_ U U U;rotate_left;refine Zsq<|Zsr<|Zb 2 U<|Zn<|Zif U (fun h141=>?_) (fun h141=>?_);refine Zkn<|DF U (dT h141)<|Zsq<|Zsr<|Za 2 [5,0] U U<|Zn<|Zib U (fun h145=>?_) (fun h145=>?_)
 refine Zrg<|Zm U<|Zk (AN ..) [] U U<|Zq<|Zv (Ac U U U)<|Zy U<|Zns<|Zv (yf 6 U) ?_;refine Zv (yd 0 U U U)<|Zn<|Zib U (fun h150=>?_) (fun h150=>?_);refine Zrg<|Zm U<|Zk (AN ..) [] U U<|Zq<|Zv (Ac U U U)<|Zy U<|Znl<|Zxn<|Zxs ?_;refine Zb 2 U<|Zk (Ew ..) [] U U<|Zq<|Zk (AN ..) [] U U<|Zq<|Zv (AD U U U)<|Zv (Ac U U U)<|Zy U<|Znl ?_;refine Zxr<|Zre (.t U .n) hS [] 1 ?_ U U U;rotate_left;refine Zsk<|Zxn<|Zxs<|Zb 2 U<|Zk (Ew ..) [] U U<|Zq<|Zk (AN ..) [] U U<|Zq ?_;refine Zv (AD U U U)<|Zv (Ac U U U)<|Zy U<|Znr<|Zre (.t U .n) hS [] 1 ?_ U U U;rotate_left
 refine Zks<|Za 2 [6,0] U U<|Zn<|Zib U (fun h150=>?_) (fun h150=>?_);refine Zrg<|Zm U<|Zk (AN ..) [] U U<|Zq<|Zv (Ac U U U)<|Zy U<|Znl<|Zxn<|Zxs ?_;refine Zb 2 U<|Zk (Ew ..) [] U U<|Zq<|Zk (AN ..) [] U U<|Zq<|Zv (AD U U U)<|Zv (Ac U U U)<|Zy U<|Znl ?_;refine Zxr<|Zre (.t U .n) hS [] 1 ?_ U U U;rotate_left;refine Zsk<|Zxn<|Zxs<|Zb 2 U<|Zk (Ew ..) [] U U<|Zq<|Zk (AN ..) [] U U<|Zq ?_;refine Zv (AD U U U)<|Zv (Ac U U U)<|Zy U<|Znr<|Zre (.t U .n) hS [] 1 ?_ U U U;rotate_left;refine Zrg<|Zb 2 U<|Zn<|Zif U (fun h141=>?_) (fun h141=>?_)
 refine Zsq<|Zsr<|Za 2 [5,0] U U<|Zn<|Zib U (fun h145=>?_) (fun h145=>?_);refine Zrg<|Zm U<|Zk (AN ..) [] U U<|Zq<|Zv (Ac U U U)<|Zy U<|Zns<|Zv (yf 6 U) ?_;refine Zv (yd 0 U U U)<|Zn<|Zib U (fun h150=>?_) (fun h150=>?_);refine Zrg<|Zm U<|Zk (AN ..) [] U U<|Zq<|Zv (Ac U U U)<|Zy U<|Znl<|Zxn<|Zxs ?_;refine Zb 2 U<|Zk (Ew ..) [] U U<|Zq<|Zk (AN ..) [] U U<|Zq<|Zv (AD U U U)<|Zv (Ac U U U)<|Zy U<|Znl ?_;refine Zxr<|Zre (.t U .n) hS [] 1 ?_ U U U;rotate_left;refine Zsk<|Zxn<|Zxs<|Zb 2 U<|Zk (Ew ..) [] U U<|Zq<|Zk (AN ..) [] U U<|Zq ?_
 refine Zv (AD U U U)<|Zv (Ac U U U)<|Zy U<|Znr<|Zre (.t U .n) hS [] 1 ?_ U U U;rotate_left;refine Zks<|Za 2 [6,0] U U<|Zn<|Zib U (fun h150=>?_) (fun h150=>?_);refine Zrg<|Zm U<|Zk (AN ..) [] U U<|Zq<|Zv (Ac U U U)<|Zy U<|Znl<|Zxn<|Zxs ?_;refine Zb 2 U<|Zk (Ew ..) [] U U<|Zq<|Zk (AN ..) [] U U<|Zq<|Zv (AD U U U)<|Zv (Ac U U U)<|Zy U<|Znl ?_;refine Zxr<|Zre (.t U .n) hS [] 1 ?_ U U U;rotate_left;refine Zsk<|Zxn<|Zxs<|Zb 2 U<|Zk (Ew ..) [] U U<|Zq<|Zk (AN ..) [] U U<|Zq ?_;refine Zv (AD U U U)<|Zv (Ac U U U)<|Zy U<|Znr<|Zre (.t U .n) hS [] 1 ?_ U U U;rotate_left
 refine Zsk<|Zxn<|Zxs<|Zb 2 U<|Zk (Ew ..) [] U U<|Zq<|Zk (AN ..) [] U U<|Zq ?_;refine Zv (AD U U U)<|Zv (Ac U U U)<|Zy U<|Znr<|Zre (.t U .n) hS [] 1 ?_ U U U;rotate_left;refine Zu' U U (dF h15) U<|Zu' U U (dF h15) U<|Zu' U U (dF h15) U<|Zv (Ao U (dF h15) U)<|Zn<|Zcf U<|Zks ?_;refine Za 3 [1,0] U U<|Zv (ycv Tryz.underlying3 Tryz.underlying40 U U)<|Zv (AD U U U)<|Zv (Ac U U U)<|Za 2 [2,0] U U<|Zv (ycv Tryz.underlying3 Tryz.underlying40 U U)<|Zv (AD U U U) ?_
 refine Zv (Ac U U U)<|Za 2 [3,0] U U<|Zv (ycv Tryz.underlying3 Tryz.underlying40 U U)<|Zv (AD U U U)<|Zv (Ac U U U)<|Zy U<|Znq ?_;refine Zsr<|Zm U<|Zk (N5 ..) [] U U<|Zq<|Znb<|Zsr<|Zb 2 U ?_;refine Zn<|DF U (dT (by omega))<|Zsr<|Zb 2 U<|Zv (Ac U U U)<|Zy U<|Zn ?_;refine Zrt<|Zr2<|Zr1<|Zre (.t U .n) hS [] 1 ?_ U U U;rotate_left
 all_goals refine ik ?_
 all_goals try simp only[Bool.and_eq_true,Bool.and_eq_false_iff,decide_eq_true_eq,decide_eq_false_iff_not] at h19
 all_goals try (exfalso;omega)
 all_goals obtain⟨p31,p26,p25,p21,p20,p12,p8,p7⟩:=p2s
 all_goals obtain⟨t0,t1,t4,t5,t10,t11,t12,t19,t20⟩:=tns
 all_goals simp only[p31,p26,p25,p21,p20,p12,p8,p7,t0,t1,t4,t5,t10,t11,t12,t19,t20,L8,Mc,mm,Int.emod_add_emod,Int.add_emod_emod]
 all_goals refine congrArg (· % 4294967296) ?_
 all_goals unfold F0
 all_goals repeat (first|rw[if_neg (by omega)]|rw[if_pos (by omega)])
 all_goals try omega
 all_goals
  rw[h145,h150];simp only[cond_true,cond_false];omega
def rdF (f w:Int):Nat:=if(decide (f≠98) && decide (f≠115) && decide (f≠102) && decide (f≠101))=true then(Au w 11 7).toNat else 0
def r1F (f w:Int):Nat:=if(decide (f≠117) && decide (f≠106) && decide (f≠102) && decide (f≠101) && decide (f≠99))=true then(Au w 19 15).toNat else 0
def r2F (f w:Int):Nat:=if(decide (f=98) || decide (f=115) || decide (f=114) || decide (f=97))=true then(Au w 24 20).toNat else 0
def jW (w:Int):Int:=Gq (IntKind.u32.wrap (IntKind.u32.wrap (IntKind.u32.wrap (IntKind.u32.wrap (Au w (Int.toNat 31) (Int.toNat 31)*2 ^ Int.toNat 20)+IntKind.u32.wrap (Au w (Int.toNat 19) (Int.toNat 12)*2 ^ Int.toNat 12))+IntKind.u32.wrap (Au w (Int.toNat 20) (Int.toNat 20)*2 ^ Int.toNat 11))+IntKind.u32.wrap (Au w (Int.toNat 30) (Int.toNat 21)*2))) (Int.toNat 21)
def bW (w:Int):Int:=Gq (IntKind.u32.wrap (IntKind.u32.wrap (IntKind.u32.wrap (IntKind.u32.wrap (Au w (Int.toNat 31) (Int.toNat 31)*2 ^ Int.toNat 12)+IntKind.u32.wrap (Au w (Int.toNat 7) (Int.toNat 7)*2 ^ Int.toNat 11))+IntKind.u32.wrap (Au w (Int.toNat 30) (Int.toNat 25)*32))+IntKind.u32.wrap (Au w (Int.toNat 11) (Int.toNat 8)*2))) (Int.toNat 13)
def sW (w:Int):Int:=Gq (IntKind.u32.wrap (IntKind.u32.wrap (Au w (Int.toNat 31) (Int.toNat 25)*32)+Au w (Int.toNat 11) (Int.toNat 7))) (Int.toNat 12)
def iW (w:Int):Int:=Gq (Au w (Int.toNat 31) (Int.toNat 20)) (Int.toNat 12)
def imF (f w:Int):Int:=
 if f=117 then IntKind.u32.wrap (w-w.tmod 4096) else if f=106 then jW w else if f=98 then bW w else if f=115 then sW w else if f=105∨f=108 then iW w
 else if f=104 then Au w (Int.toNat 24) (Int.toNat 20) else if f=102 then Au w (Int.toNat 27) (Int.toNat 20) else 0
def aqF (f w:Int) (k:Nat):Bool:=if f=97∨f=113 then decide (Au w k k=1) else false
theorem Cy {f w:Int} {k:Nat} (h:¬(f=97∨f=113)):false=aqF f w k:=by unfold aqF;rw[if_neg h]
theorem Bt {f w:Int} {k:Nat} (h:f=97∨f=113):decide (Au w k k=1)=aqF f w k:=by unfold aqF;rw[if_pos h]
def AR (w op:Int):Ins:=⟨op,rdF (AA op) w,r1F (AA op) w,r2F (AA op) w,imF (AA op) w,aqF (AA op) w 26,aqF (AA op) w 25⟩
def J4 (w op:Int):Bool:=Oq (AR w op) && decide (w32 (F0 (AA op) (AR w op))=w)
def Gi (w:Int):Nat→Int→Ins × Bool
 | 0,_=>(Jv,false)
 | n+1,op=>if J4 w op=true then(AR w op,true) else Gi w n (op+1)
theorem WG {x:Int} {k:Nat} (h:U32 x):U32 (Gq x k):=by unfold Gq;split;exact BK _;exact h
theorem jD {w:Int} (hw:U32 w) (f:Int):U32 (imF f w):=by
 unfold imF
 repeat' split
 all_goals first|exact BK _|exact WG (BK _)|exact WG (I5 hw _ _)|exact I5 hw _ _|exact⟨by decide,by decide⟩
theorem N4 {w:Int} (hw:U32 w) (hi lo:Nat):IntKind.i64.wrap (Au w hi lo)=((Au w hi lo).toNat:Int):=by have h:=I5 hw hi lo;unfold U32 at h;rw[aP ⟨by omega,by omega⟩];omega
theorem Sf {w:Int} {n:Nat} (hn:(n:Int)+1≤59) (hd:Gi w 59 1=Gi w (59-n) ((n:Int)+1)):Gi w 59 1=if J4 w ((n:Int)+1)=true then(AR w ((n:Int)+1),true) else Gi w (59-(n+1)) (((n+1:Nat):Int)+1):=by rw[hd,show 59-n=59-(n+1)+1 by omega];rfl
theorem aB {w:Int} {n:Nat} (hn:¬(n:Int)+1≤59) (hd:Gi w 59 1=Gi w (59-n) ((n:Int)+1)):Gi w 59 1=(Jv,false):=by rw[hd,show 59-n=0 by omega];rfl
theorem tq {D:Ins × Bool} {i:Ins} {b:Bool} (h:D=(i,b)):pk [.agg (En.cells i).toArray,.bool b] = .tuple #[.agg (En.arr D.1),.bool D.2]:=by subst h;rfl
theorem aJ {w op:Int} (h:Oq (AR w op)=false):J4 w op=false:=by unfold J4;rw[h];rfl
theorem d65 (w:Int) (hw:U32 w:=by assumption):Sp Tryz.prog 65 [.int .u32 w] [] fun K=>K (.returned (.tuple #[.agg (En.arr (Gi w 59 1).1),.bool (Gi w 59 1).2])) []:=by
 have hn1:=N4 hw (Int.toNat 11) (Int.toNat 7);have hn2:=N4 hw (Int.toNat 19) (Int.toNat 15);have hn3:=N4 hw (Int.toNat 24) (Int.toNat 20);refine Zen Tryz.func65 U U U fun e X Φ hS=>Zsr<|Ze (eal J0) fun b2=>Zw<|Zy U<|Aj<|Zy U<|Znl ?_;refine Znx<|Zbl ?_;refine Zlq (ι:={ n:Nat // n≤59∧Gi w 59 1=Gi w (59-n) (n+1) }) (fun n=>[(4,.int .i64 ((n.1:Int)+1)),(0,.int .u32 w),(2,pt b2)]) (fun n=>[.blk b2 167 (En.cells Jv)]) (fun n=>59-n.1) ⟨0,by omega,rfl⟩ ⟨U,U,U,trivial⟩ [0] U fun n=>Zsq<|Zsr<|Zb 2 U<|Zn<|Zif U (fun h8=>?_) (fun h8=>?_)
 refine Zkn<|Zsq<|Zbl<|Zsr<|Zm U<|Zk (N5 ..) [] U U<|Zq<|Zy U<|Znl ?_;refine Zxs<|Zm U<|Zv (yb QL U)<|Ze (eal J0) fun b6=>Zw<|Ze (esw 0 (m:=7) U U U U U U U)<|Zw0<|Aj ?_;refine Zb 3 U<|Zc 11 [] U U<|Zn ?_;rotate_left;refine Zex<|Zxt<|Zxt<|Zxx<|Zxs<|Zv (yb QL U)<|Ze (esw 0 (m:=7) U U U U (Enc.len ..) U U)<|Zw0<|Zy U<|Znl ?_;refine Zxr<|Zre (.wh 0 (m:=7) U U U (.t U .n)) hS [] 1 ?_ U U U;rotate_left
 ·refine Zjm (ι:={ r:Nat // r=rdF (AA ((n.1:Int)+1)) w }) (fun _=>[(4,.int .i64 ((n.1:Int)+1)),(5,.int .u8 (AA ((n.1:Int)+1))),(0,.int .u32 w),(2,pt b2),(6,pt b6)]) (fun r=>[.blk b6 167 (En.cells ⟨(n.1:Int)+1,r.1,0,0,0,false,false⟩),.blk b2 167 (En.cells Jv)]) X ?_ fun r=>?_;rotate_left;refine Zsq<|Zsr<|Zb 3 U<|Zc 15 [] U U<|Zn ?_;rotate_left
  ·refine Zib U (fun h28=>?_) (fun h28=>?_);refine Zrg<|Zm U<|Zk (Bu ..) [] U U<|Zq<|Zv (ycv Tryz.underlying40 Tryz.underlying3 U U)<|Zv (yf 1 U)<|Ze (es 0 U U U U U)<|Zw0<|Znl ?_;rotate_left;refine Zsk ?_;rotate_left
   ·rw[hn1];refine Zjr ⟨(Au w 11 7).toNat,(if_pos h28).symm⟩ ⟨U,U,U,U,U,trivial⟩ [0,0] 0 U U
   ·refine Zjr ⟨0,(if_neg (by rw[h28];decide)).symm⟩ ⟨U,U,U,U,U,trivial⟩ [0,0] 0 U U
  ·
   refine Zjm (ι:={ s:Nat // s=r1F (AA ((n.1:Int)+1)) w }) (fun _=>[(4,.int .i64 ((n.1:Int)+1)),(5,.int .u8 (AA ((n.1:Int)+1))),(0,.int .u32 w),(2,pt b2),(6,pt b6)]) (fun s=>[.blk b6 167 (En.cells ⟨(n.1:Int)+1,r.1,s.1,0,0,false,false⟩),.blk b2 167 (En.cells Jv)]) X ?_ fun s=>?_;rotate_left;refine Zsq<|Zsr<|Zb 3 U<|Zc 11 [] U U<|Zn ?_;rotate_left
   ·refine Zib U (fun h50=>?_) (fun h50=>?_);refine Zrg<|Zm U<|Zk (Bu ..) [] U U<|Zq<|Zv (ycv Tryz.underlying40 Tryz.underlying3 U U)<|Zv (yf 2 U)<|Ze (es 0 U U U U U)<|Zw0<|Znl ?_;rotate_left;refine Zsk ?_;rotate_left
    ·rw[hn2];refine Zjr ⟨(Au w 19 15).toNat,(if_pos h50).symm⟩ ⟨U,U,U,U,U,trivial⟩ [0,0] 0 U U
    ·refine Zjr ⟨0,(if_neg (by rw[h50];decide)).symm⟩ ⟨U,U,U,U,U,trivial⟩ [0,0] 0 U U
   ·
    refine Zjm (ι:={ t:Nat // t=r2F (AA ((n.1:Int)+1)) w }) (fun _=>[(4,.int .i64 ((n.1:Int)+1)),(5,.int .u8 (AA ((n.1:Int)+1))),(0,.int .u32 w),(2,pt b2),(6,pt b6)]) (fun t=>[.blk b6 167 (En.cells ⟨(n.1:Int)+1,r.1,s.1,t.1,0,false,false⟩),.blk b2 167 (En.cells Jv)]) X ?_ fun t=>?_;refine Zib U (fun h68=>?_) (fun h68=>?_);refine Zrg<|Zm U<|Zk (Bu ..) [] U U<|Zq<|Zv (ycv Tryz.underlying40 Tryz.underlying3 U U)<|Zv (yf 3 U)<|Ze (es 0 U U U U U)<|Zw0<|Znl ?_;rotate_left;refine Zsk ?_;rotate_left;refine Zsq<|Zsr<|Zm U<|Zn ?_;rotate_left
    ·rw[hn3];refine Zjr ⟨(Au w 24 20).toNat,(if_pos h68).symm⟩ ⟨U,U,U,U,U,trivial⟩ [0,0] 0 U U
    ·refine Zjr ⟨0,(if_neg (by rw[h68];decide)).symm⟩ ⟨U,U,U,U,U,trivial⟩ [0,0] 0 U U
    ·refine Zjm (ι:={ q:Int × Bool × Bool // q=(imF (AA ((n.1:Int)+1)) w,aqF (AA ((n.1:Int)+1)) w 26,aqF (AA ((n.1:Int)+1)) w 25) }) (fun _=>[(4,.int .i64 ((n.1:Int)+1)),(0,.int .u32 w),(2,pt b2),(6,pt b6)]) (fun q=>[.blk b6 167 (En.cells ⟨(n.1:Int)+1,r.1,s.1,t.1,q.1.1,q.1.2.1,q.1.2.2⟩),.blk b2 167 (En.cells Jv)]) X ?_ fun q=>?_;refine Zbl<|Zsr<|Zb 2 U<|Zn<|Zif U (fun h74=>?_) (fun h74=>?_);refine Zrg<|Zb 2 U<|Zv (Cc U U (by decide) U)<|Zv (Dh U U U)<|Zv (yf 4 U)<|Ze (es 0 U U U U U)<|Zw0<|Znl<|Zxn ?_;rotate_left;refine Zsr<|Zb 2 U<|Zn<|Zif U (fun h81=>?_) (fun h81=>?_)
     refine Zrg<|Zm U<|Zk (Bu ..) [] U U<|Zq<|Zk (AN ..) [] U U<|Zq<|Zv (AD U U U)<|Zm U<|Zk (Bu ..) [] U U<|Zq ?_;refine Zk (AN ..) [] U U<|Zq<|Zv (AD U U U)<|Zv (Ac U U U)<|Zm U<|Zk (Bu ..) [] U U<|Zq<|Zk (AN ..) [] U U<|Zq<|Zv (AD U U U) ?_;refine Zv (Ac U U U)<|Zm U<|Zk (Bu ..) [] U U<|Zq<|Zv (AD U U U)<|Zv (Ac U U U)<|Zk (RK ..) [] U U<|Zq<|Zv (yf 4 U)<|Ze (es 0 U U U U U)<|Zw0 ?_;refine Znl<|Zxn ?_;rotate_left;refine Zsr<|Zb 2 U<|Zn<|Zif U (fun h103=>?_) (fun h103=>?_)
     refine Zrg<|Zm U<|Zk (Bu ..) [] U U<|Zq<|Zk (AN ..) [] U U<|Zq<|Zv (AD U U U)<|Zm U<|Zk (Bu ..) [] U U<|Zq ?_;refine Zk (AN ..) [] U U<|Zq<|Zv (AD U U U)<|Zv (Ac U U U)<|Zm U<|Zk (Bu ..) [] U U<|Zq<|Zv (AD U U U)<|Zv (Ac U U U)<|Zm U ?_;refine Zk (Bu ..) [] U U<|Zq<|Zv (AD U U U)<|Zv (Ac U U U)<|Zk (RK ..) [] U U<|Zq<|Zv (yf 4 U)<|Ze (es 0 U U U U U)<|Zw0<|Znl<|Zxn ?_;rotate_left;refine Zsr<|Zb 2 U<|Zn<|Zif U (fun h124=>?_) (fun h124=>?_)
     refine Zrg<|Zm U<|Zk (Bu ..) [] U U<|Zq<|Zv (AD U U U)<|Zm U<|Zk (Bu ..) [] U U<|Zq<|Zv (Ac U U U)<|Zk (RK ..) [] U U ?_;refine Zq<|Zv (yf 4 U)<|Ze (es 0 U U U U U)<|Zw0<|Znl<|Zxn ?_;rotate_left;refine Zsq<|Zsr<|Zb 2 U<|Zn<|Zif U (fun h134=>?_) (fun h134=>?_);refine Zkn<|DF U (dT h134)<|Zrg<|Zm U<|Zk (Bu ..) [] U U<|Zq<|Zk (RK ..) [] U U<|Zq<|Zv (yf 4 U) ?_;refine Ze (es 0 U U U U U)<|Zw0<|Znl<|Zxn ?_;rotate_left;refine Zrg<|Zb 2 U<|Zn<|Zif U (fun h134=>?_) (fun h134=>?_)
     refine Zrg<|Zm U<|Zk (Bu ..) [] U U<|Zq<|Zk (RK ..) [] U U<|Zq<|Zv (yf 4 U)<|Ze (es 0 U U U U U)<|Zw0<|Znl<|Zxn ?_;rotate_left;refine Zsr<|Zb 2 U<|Zn<|Zif U (fun h141=>?_) (fun h141=>?_);refine Zrg<|Zm U<|Zk (Bu ..) [] U U<|Zq<|Zv (yf 4 U)<|Ze (es 0 U U U U U)<|Zw0<|Znl<|Zxn ?_;rotate_left;refine Zsr<|Zb 2 U<|Zn<|Zif U (fun h146=>?_) (fun h146=>?_);refine Zrg<|Zm U<|Zk (Bu ..) [] U U<|Zq<|Zv (yf 4 U)<|Ze (es 0 U U U U U)<|Zw0<|Znl<|Zxn ?_;rotate_left;refine Zsq<|Zsr<|Zb 2 U<|Zn<|Zif U (fun h151=>?_) (fun h151=>?_)
     refine Zkn<|DF U (dT h151)<|Zrg<|Zm U<|Zk (Bu ..) [] U U<|Zq<|Zb 2 U<|Zk (Bu ..) [] U U ?_;refine Zq<|Za 2 [5] U U<|Ze (es 0 U U U U U)<|Zw0<|Zv (yf 6 U)<|Ze (es 0 U U U U U)<|Zw0<|Znl<|Zxn ?_;rotate_left;refine Zrg<|Zb 2 U<|Zn<|Zif U (fun h151=>?_) (fun h151=>?_);refine Zrg<|Zm U<|Zk (Bu ..) [] U U<|Zq<|Zb 2 U<|Zk (Bu ..) [] U U<|Zq<|Za 2 [5] U U ?_;refine Ze (es 0 U U U U U)<|Zw0<|Zv (yf 6 U)<|Ze (es 0 U U U U U)<|Zw0<|Znl<|Zxn ?_;rotate_left;refine Zsk<|Zxn ?_;rotate_left;refine Zsr<|Zv (ydw 0 (m:=7) U U (Enc.len ..)) ?_;rotate_left
     ·refine Zjr (Y':=X) ⟨(IntKind.u32.wrap (w-w.tmod 4096),false,false),Prod.ext ?_ (Prod.ext ?_ ?_)⟩ ⟨U,U,U,U,trivial⟩ [0,0] 0 U U
      ·unfold imF;repeat (first|rw[if_neg (by omega)]|rw[if_pos (by omega)])
      ·first|exact Cy (by omega)|exact Bt (by omega)
      ·first|exact Cy (by omega)|exact Bt (by omega)
     ·refine Zjr (Y':=X) ⟨(jW w,false,false),Prod.ext ?_ (Prod.ext ?_ ?_)⟩ ⟨U,U,U,U,trivial⟩ [0,0] 0 U U
      ·unfold imF;repeat (first|rw[if_neg (by omega)]|rw[if_pos (by omega)])
      ·first|exact Cy (by omega)|exact Bt (by omega)
      ·first|exact Cy (by omega)|exact Bt (by omega)
     ·refine Zjr (Y':=X) ⟨(bW w,false,false),Prod.ext ?_ (Prod.ext ?_ ?_)⟩ ⟨U,U,U,U,trivial⟩ [0,0] 0 U U
      ·unfold imF;repeat (first|rw[if_neg (by omega)]|rw[if_pos (by omega)])
      ·first|exact Cy (by omega)|exact Bt (by omega)
      ·first|exact Cy (by omega)|exact Bt (by omega)
     ·refine Zjr (Y':=X) ⟨(sW w,false,false),Prod.ext ?_ (Prod.ext ?_ ?_)⟩ ⟨U,U,U,U,trivial⟩ [0,0] 0 U U
      ·unfold imF;repeat (first|rw[if_neg (by omega)]|rw[if_pos (by omega)])
      ·first|exact Cy (by omega)|exact Bt (by omega)
      ·first|exact Cy (by omega)|exact Bt (by omega)
     ·refine Zjr (Y':=X) ⟨(iW w,false,false),Prod.ext ?_ (Prod.ext ?_ ?_)⟩ ⟨U,U,U,U,trivial⟩ [0,0] 0 U U
      ·unfold imF;repeat (first|rw[if_neg (by omega)]|rw[if_pos (by omega)])
      ·first|exact Cy (by omega)|exact Bt (by omega)
      ·first|exact Cy (by omega)|exact Bt (by omega)
     ·refine Zjr (Y':=X) ⟨(iW w,false,false),Prod.ext ?_ (Prod.ext ?_ ?_)⟩ ⟨U,U,U,U,trivial⟩ [0,0] 0 U U
      ·unfold imF;repeat (first|rw[if_neg (by omega)]|rw[if_pos (by omega)])
      ·first|exact Cy (by omega)|exact Bt (by omega)
      ·first|exact Cy (by omega)|exact Bt (by omega)
     ·refine Zjr (Y':=X) ⟨(Au w (Int.toNat 24) (Int.toNat 20),false,false),Prod.ext ?_ (Prod.ext ?_ ?_)⟩ ⟨U,U,U,U,trivial⟩ [0,0] 0 U U
      ·unfold imF;repeat (first|rw[if_neg (by omega)]|rw[if_pos (by omega)])
      ·first|exact Cy (by omega)|exact Bt (by omega)
      ·first|exact Cy (by omega)|exact Bt (by omega)
     ·refine Zjr (Y':=X) ⟨(Au w (Int.toNat 27) (Int.toNat 20),false,false),Prod.ext ?_ (Prod.ext ?_ ?_)⟩ ⟨U,U,U,U,trivial⟩ [0,0] 0 U U
      ·unfold imF;repeat (first|rw[if_neg (by omega)]|rw[if_pos (by omega)])
      ·first|exact Cy (by omega)|exact Bt (by omega)
      ·first|exact Cy (by omega)|exact Bt (by omega)
     ·refine Zjr (Y':=X) ⟨(0,decide (Au w (Int.toNat 26) (Int.toNat 26)=1),decide (Au w (Int.toNat 25) (Int.toNat 25)=1)),Prod.ext ?_ (Prod.ext ?_ ?_)⟩ ⟨U,U,U,U,trivial⟩ [0,0] 0 U U
      ·unfold imF;repeat (first|rw[if_neg (by omega)]|rw[if_pos (by omega)])
      ·first|exact Cy (by omega)|exact Bt (by omega)
      ·first|exact Cy (by omega)|exact Bt (by omega)
     ·refine Zjr (Y':=X) ⟨(0,decide (Au w (Int.toNat 26) (Int.toNat 26)=1),decide (Au w (Int.toNat 25) (Int.toNat 25)=1)),Prod.ext ?_ (Prod.ext ?_ ?_)⟩ ⟨U,U,U,U,trivial⟩ [0,0] 0 U U
      ·unfold imF;repeat (first|rw[if_neg (by omega)]|rw[if_pos (by omega)])
      ·first|exact Cy (by omega)|exact Bt (by omega)
      ·first|exact Cy (by omega)|exact Bt (by omega)
     ·refine Zjr (Y':=X) ⟨(0,false,false),Prod.ext ?_ (Prod.ext ?_ ?_)⟩ ⟨U,U,U,U,trivial⟩ [0,0] 0 U U
      ·unfold imF;repeat (first|rw[if_neg (by omega)]|rw[if_pos (by omega)])
      ·first|exact Cy (by omega)|exact Bt (by omega)
      ·first|exact Cy (by omega)|exact Bt (by omega)
     ·have hc:(⟨(n.1:Int)+1,r.1,s.1,t.1,q.1.1,q.1.2.1,q.1.2.2⟩:Ins)=AR w ((n.1:Int)+1):=by unfold AR;rw[r.2,s.2,t.2,q.2]
      have hu:U32 (AR w ((n.1:Int)+1)).imm:=jD hw _;have ho:0≤(AR w ((n.1:Int)+1)).op∧(AR w ((n.1:Int)+1)).op<60:=⟨by show 0≤(n.1:Int)+1;omega,by show(n.1:Int)+1<60;omega⟩
      rw[hc];refine Zk (eF (AR w ((n.1:Int)+1)) hu) [] U U<|Zq<|Zm U<|Zgb U U (fun h164=>?_) (fun h164=>?_);refine Zg' U U h164<|Zv (ydw 0 (m:=7) U U (Enc.len ..))<|Zg' U U h164<|Zk (eG ..) [] U U<|Zq<|Zc 3 [] U U<|Zn<|Zib U (fun h169=>?_) (fun h169=>?_);refine Zsr<|Zv (ydw 0 (m:=7) U U (Enc.len ..))<|Ze (esw 1 (m:=7) U U U U (Enc.len ..) (Enc.len ..) (Enc.allL ..))<|Zw0<|Zy U<|Znr<|Zr2<|Zr1<|Zr1 ?_;refine Zr2<|Zr1<|Zre (.wh 1 (m:=7) U U (Enc.len ..) (.t U .n)) hS [] 2 ?_ U U U;rotate_left;refine Zsk<|Zxn<|Znx<|Zrg<|Zm U<|Zv (Ac U U (Ar U (by omega)))<|Zy U<|Znl ?_;rotate_left
      refine Zu' U U h164 U<|Zu' U U h164 U<|Zu' U U h164 U<|Zu' U U h164 U<|Zv (Ao U h164 U)<|Zn<|Zcf U<|Zsk<|Zxn ?_;refine Znx<|Zrg<|Zm U<|Zv (Ac U U (Ar U (by omega)))<|Zy U<|Znl ?_;rotate_left
      ·exact tq ((Sf h8 n.2.2).trans (if_pos (show J4 w ((n.1:Int)+1)=true from h169)))
      ·refine Zlr ⟨n.1+1,by omega,(Sf h8 n.2.2).trans (if_neg (by rw[show J4 w ((n.1:Int)+1)=false from h169];decide))⟩ (by show 59-(n.1+1)<59-n.1;omega) ⟨U,U,U,trivial⟩ [1] 1 U U
      ·refine Zlr ⟨n.1+1,by omega,(Sf h8 n.2.2).trans (if_neg (by rw[aJ h164];decide))⟩ (by show 59-(n.1+1)<59-n.1;omega) ⟨U,U,U,trivial⟩ [1] 1 U U
 ·exact tq (aB h8 n.2.2)
theorem AT {w:Int} (hi lo:Nat) (a b:Int) (ha:(2:Int) ^ lo=a) (hb:(2:Int) ^ (hi+1-lo)=b):Au w hi lo=w/a%b:=by subst ha hb;rfl
theorem Fa (op:Int):0≤Be op∧Be op<128:=by
 unfold Be
 repeat' split
 all_goals decide
theorem MQ:∀k:_root_.Fin 60,0≤f3L.getD k.1 0∧f3L.getD k.1 0<8:=by decide+kernel
theorem Vc:∀k:_root_.Fin 60,0≤f7F k.1∧f7F k.1<128:=by decide+kernel
theorem H9 {w:Int} (f:Int) (h:f≠98∧f≠115∧f≠102∧f≠101):rdF f w=(w/128%32).toNat:=by unfold rdF;rw[AT 11 7 128 32 rfl rfl,if_pos (by simp[h.1,h.2.1,h.2.2.1,h.2.2.2])]
theorem JO {w:Int} (f:Int) (h:f≠117∧f≠106∧f≠102∧f≠101∧f≠99):r1F f w=(w/32768%32).toNat:=by unfold r1F;rw[AT 19 15 32768 32 rfl rfl,if_pos (by simp[h.1,h.2.1,h.2.2.1,h.2.2.2.1,h.2.2.2.2])]
theorem PY {w:Int} (f:Int) (h:f=98∨f=115∨f=114∨f=97):r2F f w=(w/1048576%32).toNat:=by unfold r2F;rw[AT 24 20 1048576 32 rfl rfl,if_pos (by rcases h with rfl|rfl|rfl|rfl<;>rfl)]
theorem Sw {w:Int} (a:Int):0≤((w/a%32).toNat:Int)∧((w/a%32).toNat:Int)≤31:=by have:=Int.emod_lt_of_pos (w/a) (b:=32) (by decide);omega
theorem kR {w:Int} (f:Int):(rdF f w:Int)≤31:=by
 unfold rdF;rw[AT 11 7 128 32 rfl rfl];split
 ·exact(Sw 128).2
 ·decide
theorem kN {w:Int} (f:Int):(r1F f w:Int)≤31:=by
 unfold r1F;rw[AT 19 15 32768 32 rfl rfl];split
 ·exact(Sw 32768).2
 ·decide
theorem kP {w:Int} (f:Int):(r2F f w:Int)≤31:=by
 unfold r2F;rw[AT 24 20 1048576 32 rfl rfl];split
 ·exact(Sw 1048576).2
 ·decide
theorem WW {w k:Int} (h:AA k≠0):Qv (AA k) (AR w k)=false:=by
 have h1:=kR (w:=w) (AA k);have h2:=kN (w:=w) (AA k);have h3:=kP (w:=w) (AA k);unfold Qv AR;simp only[Bool.or_eq_false_iff,decide_eq_false_iff_not];refine⟨⟨⟨⟨⟨⟨⟨⟨⟨⟨h,by omega⟩,by omega⟩,by omega⟩,by omega⟩,by omega⟩,by omega⟩,?_⟩,?_⟩,?_⟩,?_⟩
 ·unfold rdF;split
  ·rename_i hc;rw[hc];rfl
  ·simp
 ·unfold r1F;split
  ·rename_i hc;rw[hc];rfl
  ·simp
 ·unfold r2F;split
  ·rename_i hc;rw[hc];rfl
  ·simp
 ·unfold aqF;by_cases h4:AA k=97∨AA k=113
  ·rcases h4 with h4|h4<;>rw[h4]<;>rfl
  ·simp only[if_neg h4,Bool.or_false,Bool.and_false]
theorem Dq {w k:Int} {f:Int} (hf:AA k=f) (h0:f≠0) (hi:M6 f (AR w k)=true) {p:Prop} [Decidable p] (he:w32 (F0 f (AR w k))=w↔p):J4 w k=decide p:=by subst hf;show((bif Qv (AA k) (AR w k) then false else M6 (AA k) (AR w k)) && decide (w32 (F0 (AA k) (AR w k))=w))=_;rw[WW h0,cond_false,hi,Bool.true_and];exact decide_eq_decide.2 he
structure Et (w k:Int) (r:Int × Fm × Int):Prop where
 fit:J4 w k=decide (BL w r.2.1.mask=r.2.2)
 ins:AR w k=Vn w r
theorem cell {i j:Ins} (h:i.op=j.op) (h1:i.rd=j.rd) (h2:i.rs1=j.rs1) (h3:i.rs2=j.rs2) (h4:i.imm=j.imm) (h5:i.aq=j.aq) (h6:i.rl=j.rl):i=j:=by cases i;cases j;simp only at h h1 h2 h3 h4 h5 h6;subst h h1 h2 h3 h4 h5 h6;rfl
theorem Nk {w:Int} (hw:U32 w):AB w 11 7=w/128%32:=B4 hw 11 7 128 32 (by decide) (by decide) rfl rfl rfl rfl
theorem Oy {w:Int} (hw:U32 w):AB w 19 15=w/32768%32:=B4 hw 19 15 32768 32 (by decide) (by decide) rfl rfl rfl rfl
theorem Tk {w:Int} (hw:U32 w):AB w 24 20=w/1048576%32:=B4 hw 24 20 1048576 32 (by decide) (by decide) rfl rfl rfl rfl
theorem bS {w:Int} (hw:U32 w):AB w 26 26=w/67108864%2:=B4 hw 26 26 67108864 2 (by decide) (by decide) rfl rfl rfl rfl
theorem bT {w:Int} (hw:U32 w):AB w 25 25=w/33554432%2:=B4 hw 25 25 33554432 2 (by decide) (by decide) rfl rfl rfl rfl
theorem r_u {w k bits:Int} (hw:U32 w) (hf:AA k=117) (hb:Be k=bits):Et w k (k,fmU,bits):=by
 have hc:AR w k=⟨k,(w/128%32).toNat,0,0,w-w%4096,false,false⟩:=by unfold AR;rw[hf,H9 117 (by decide)];refine cell rfl rfl rfl rfl ?_ rfl rfl;show IntKind.u32.wrap (w-w.tmod 4096)=w-w%4096;rw[L8,kY hw];unfold U32 at hw;omega
 refine⟨?_,?_⟩
 ·refine Dq hf (by decide) (by rw[hc];show decide ((w-w%4096).tmod 4096=0)=true;rw[Int.tmod_eq_emod_of_nonneg (by unfold U32 at hw;omega)];exact dT (by omega)) ?_;show _↔BL w fmU.mask=bits;rw[hc,show fmU.mask=0x7f from rfl,bM hw,←hb,show F0 117 ⟨k,(w/128%32).toNat,0,0,w-w%4096,false,false⟩=Be k+((w/128%32).toNat:Int)*128+0*32768+0*1048576+(w-w%4096) from rfl];have ho:=Fa k;generalize Be k=o at *;unfold U32 at hw;rw[Mc];omega
 ·rw[hc];exact cell rfl (by show _=(AB w 11 7).toNat;rw[Nk hw]) rfl rfl (Yy hw).symm rfl rfl
theorem w4 {a b c d:Int} (ha:0≤a) (hb:0≤b) (hc:0≤c) (hd:0≤d) (h:a+b+c+d<4294967296):w32 (w32 (w32 (w32 a+w32 b)+w32 c)+w32 d)=a+b+c+d:=by rw[A6 (x:=a) ⟨by omega,by omega⟩,A6 (x:=b) ⟨by omega,by omega⟩,A6 (x:=c) ⟨by omega,by omega⟩,A6 (x:=d) ⟨by omega,by omega⟩,A6 (x:=a+b) ⟨by omega,by omega⟩,A6 (x:=a+b+c) ⟨by omega,by omega⟩,A6 ⟨by omega,by omega⟩]
theorem LZ {x m:Int} {k:Nat} (hm:(2:Int) ^ (k-1)=m) (h:x<m):Gq x k=x:=by subst hm;exact if_neg (by omega)
theorem LY {x m:Int} {k:Nat} (hm:(2:Int) ^ (k-1)=m) (h:m≤x) (h2:x<m*2) (h3:m≤1048576):Gq x k=x+(4294967296-m*2):=by subst hm;unfold Gq;rw[if_pos h,Mc];omega
theorem aT {w:Int} (hw:U32 w):jW w=tkJ w:=by
 rw[T7 hw];show Gq (w32 (w32 (w32 (w32 (Au w 31 31*1048576)+w32 (Au w 19 12*4096))+w32 (Au w 20 20*2048))+w32 (Au w 30 21*2))) 21=_;rw[AT 31 31 2147483648 2 rfl rfl,AT 19 12 4096 256 rfl rfl,AT 20 20 1048576 2 rfl rfl,AT 30 21 2097152 1024 rfl rfl];unfold U32 at hw;rw[w4 (by omega) (by omega) (by omega) (by omega) (by omega)];by_cases h:w<2147483648
 ·rw[if_pos h,LZ (m:=1048576) rfl (by omega)];omega
 ·rw[if_neg h,LY (m:=1048576) rfl (by omega) (by omega) (by omega)];omega
theorem YW {w:Int} (hw:U32 w):bW w=tkB w:=by
 rw[T5 hw];show Gq (w32 (w32 (w32 (w32 (Au w 31 31*4096)+w32 (Au w 7 7*2048))+w32 (Au w 30 25*32))+w32 (Au w 11 8*2))) 13=_;rw[AT 31 31 2147483648 2 rfl rfl,AT 7 7 128 2 rfl rfl,AT 30 25 33554432 64 rfl rfl,AT 11 8 256 16 rfl rfl];unfold U32 at hw;rw[w4 (by omega) (by omega) (by omega) (by omega) (by omega)];by_cases h:w<2147483648
 ·rw[if_pos h,LZ (m:=4096) rfl (by omega)];omega
 ·rw[if_neg h,LY (m:=4096) rfl (by omega) (by omega) (by omega)];omega
theorem cC {w:Int} (hw:U32 w):sW w=tkS w:=by
 rw[T8 hw];show Gq (w32 (w32 (Au w 31 25*32)+Au w 11 7)) 12=_;unfold U32 at hw;rw[AT 31 25 33554432 128 rfl rfl,AT 11 7 128 32 rfl rfl,show w/33554432%128=w/33554432 by omega];rw[A6 (x:=w/33554432*32) ⟨by omega,by omega⟩,A6 ⟨by omega,by omega⟩];by_cases h:w<2147483648
 ·rw[if_pos h,LZ (m:=2048) rfl (by omega)]
 ·rw[if_neg h,LY (m:=2048) rfl (by omega) (by omega) (by omega)];omega
theorem aR {w:Int} (hw:U32 w):iW w=tkI w:=by
 rw[T6 hw];show Gq (Au w 31 20) 12=_;rw[AT 31 20 1048576 4096 rfl rfl];unfold U32 at hw;by_cases h:w<2147483648
 ·rw[if_pos h,LZ (m:=2048) rfl (by omega)]
 ·rw[if_neg h,LY (m:=2048) rfl (by omega) (by omega) (by omega)];omega
theorem Xs (w:Int):w/128/32=w/4096∧w/4096/8=w/32768∧w/32768/32=w/1048576∧w/1048576/32=w/33554432∧w/128/2=w/256∧w/256/16=w/4096∧w/33554432/64=w/2147483648∧w/4096/256=w/1048576∧w/1048576/2=w/2097152∧w/2097152/1024=w/2147483648:=by refine⟨?_,?_,?_,?_,?_,?_,?_,?_,?_,?_⟩<;>omega
theorem YZ {x p q r t:Int} (hp:0≤p∧p<2) (hq:0≤q∧q<256) (hr:0≤r∧r<2) (ht:0≤t∧t<1024) (hx:x=q*4096+r*2048+t*2+p*4293918720):x/1048576%2=p∧x/2%1024=t∧x/2048%2=r∧x/4096%256=q:=by refine⟨by omega,by omega,by omega,by omega⟩
theorem YX {x p q r t:Int} (hp:0≤p∧p<2) (hq:0≤q∧q<64) (hr:0≤r∧r<16) (ht:0≤t∧t<2) (hx:x=t*2048+q*32+r*2+p*4294963200):x/4096%2=p∧x/32%64=q∧x/2%16=r∧x/2048%2=t:=by refine⟨by omega,by omega,by omega,by omega⟩
theorem Y0 {x p q r:Int} (hq:0≤q∧q<128) (hr:0≤r∧r<32) (hx:x=q*32+r+p*4294963200):x/32%128=q∧x/1%32=r:=by refine⟨by omega,by omega⟩
theorem YY {x p q:Int} (hq:0≤q∧q<4096) (hx:x=q+p*4294963200):x/1%4096=q:=by omega
theorem r_j {w k bits:Int} (hw:U32 w) (hf:AA k=106) (hb:Be k=bits):Et w k (k,fmJ,bits):=by
 have hc:AR w k=⟨k,(w/128%32).toNat,0,0,tkJ w,false,false⟩:=by unfold AR;rw[hf,H9 106 (by decide)];exact cell rfl rfl rfl rfl (aT hw) rfl rfl
 have ht:=T7 hw;have hu:U32 (tkJ w):=by rw[ht];unfold U32 at hw;split<;>exact⟨by omega,by omega⟩
 have hs:=Gr hu;refine⟨?_,?_⟩
 ·refine Dq hf (by decide) (by
   rw[hc];show(decide ((sgn (tkJ w)).tmod 2=0) && decide (-1048576≤sgn (tkJ w)) && decide (sgn (tkJ w)≤1048574))=true;have h2:=T9 (sgn (tkJ w)) 2;unfold U32 at hw hu;simp only[Bool.and_eq_true,decide_eq_true_eq]
   split at ht<;>split at hs<;>exact⟨⟨by omega,by omega⟩,by omega⟩) ?_
  show _↔BL w fmJ.mask=bits
  rw[hc,show fmJ.mask=0x7f from rfl,bM hw,←hb,show F0 106 ⟨k,(w/128%32).toNat,0,0,tkJ w,false,false⟩=Be k+((w/128%32).toNat:Int)*128+0*32768+0*1048576+(Au (tkJ w) 20 20*2147483648+Au (tkJ w) 10 1*2097152+Au (tkJ w) 11 11*1048576+Au (tkJ w) 19 12*4096) from rfl,
   AT 20 20 1048576 2 rfl rfl,AT 10 1 2 1024 rfl rfl,AT 11 11 2048 2 rfl rfl,AT 19 12 4096 256 rfl rfl]
  have ho:=Fa k;generalize Be k=o at *;unfold U32 at hw hu;generalize tkJ w=x at *;obtain⟨e1,e2,e3,e4⟩:=YZ (x:=x) (p:=w/2147483648) (q:=w/4096%256) (r:=w/1048576%2) (t:=w/2097152%1024) (by omega) (by omega) (by omega) (by omega) (by split at ht<;>omega);rw[e1,e2,e3,e4];clear e1 e2 e3 e4 ht hs hu hc;have hd:=Xs w;rw[A6 ⟨by omega,by omega⟩];omega
 ·rw[hc];exact cell rfl (by show _=(AB w 11 7).toNat;rw[Nk hw]) rfl rfl rfl rfl rfl
theorem r_b {w k bits:Int} (hw:U32 w) (hk:0≤k∧k<60) (hf:AA k=98) (hb:Be k+f3L.getD k.toNat 0*4096=bits):Et w k (k,fmB,bits):=by
 have hc:AR w k=⟨k,0,(w/32768%32).toNat,(w/1048576%32).toNat,tkB w,false,false⟩:=by unfold AR;rw[hf,JO 98 (by decide),PY 98 (by decide)];exact cell rfl rfl rfl rfl (YW hw) rfl rfl
 have ht:=T5 hw;have hu:U32 (tkB w):=by rw[ht];unfold U32 at hw;split<;>exact⟨by omega,by omega⟩
 have hs:=Gr hu;refine⟨?_,?_⟩
 ·refine Dq hf (by decide) (by
   rw[hc];show(decide ((sgn (tkB w)).tmod 2=0) && decide (-4096≤sgn (tkB w)) && decide (sgn (tkB w)≤4094))=true;have h2:=T9 (sgn (tkB w)) 2;unfold U32 at hw hu;simp only[Bool.and_eq_true,decide_eq_true_eq]
   split at ht<;>split at hs<;>exact⟨⟨by omega,by omega⟩,by omega⟩) ?_
  show _↔BL w fmB.mask=bits
  rw[hc,show fmB.mask=0x707f from rfl,XO hw,←hb,show F0 98 ⟨k,0,(w/32768%32).toNat,(w/1048576%32).toNat,tkB w,false,false⟩=Be k+f3L.getD k.toNat 0*4096+0*128+((w/32768%32).toNat:Int)*32768+((w/1048576%32).toNat:Int)*1048576+(Au (tkB w) 12 12*2147483648+Au (tkB w) 10 5*33554432+Au (tkB w) 4 1*256+Au (tkB w) 11 11*128) from rfl,
   AT 12 12 4096 2 rfl rfl,AT 10 5 32 64 rfl rfl,AT 4 1 2 16 rfl rfl,AT 11 11 2048 2 rfl rfl]
  have ho:=Fa k;have h3:=MQ ⟨k.toNat,by omega⟩;simp only at h3;generalize Be k=o at *;generalize f3L.getD k.toNat 0=f at *;unfold U32 at hw hu;generalize tkB w=x at *;obtain⟨e1,e2,e3,e4⟩:=YX (x:=x) (p:=w/2147483648) (q:=w/33554432%64) (r:=w/256%16) (t:=w/128%2) (by omega) (by omega) (by omega) (by omega) (by split at ht<;>omega);rw[e1,e2,e3,e4];clear e1 e2 e3 e4 ht hs hu hc;have hd:=Xs w;rw[A6 ⟨by omega,by omega⟩];omega
 ·rw[hc];exact cell rfl rfl (by show _=(AB w 19 15).toNat;rw[Oy hw]) (by show _=(AB w 24 20).toNat;rw[Tk hw]) rfl rfl rfl
theorem r_s {w k bits:Int} (hw:U32 w) (hk:0≤k∧k<60) (hf:AA k=115) (hb:Be k+f3L.getD k.toNat 0*4096=bits):Et w k (k,fmS,bits):=by
 have hc:AR w k=⟨k,0,(w/32768%32).toNat,(w/1048576%32).toNat,tkS w,false,false⟩:=by unfold AR;rw[hf,JO 115 (by decide),PY 115 (by decide)];exact cell rfl rfl rfl rfl (cC hw) rfl rfl
 have ht:=T8 hw;rw[show w/33554432%128=w/33554432 by unfold U32 at hw;omega] at ht;have hu:U32 (tkS w):=by rw[ht];unfold U32 at hw;split<;>exact⟨by omega,by omega⟩
 have hs:=Gr hu;refine⟨?_,?_⟩
 ·refine Dq hf (by decide) (by
   rw[hc];show(decide (-2048≤sgn (tkS w)) && decide (sgn (tkS w)≤2047))=true;unfold U32 at hw hu;simp only[Bool.and_eq_true,decide_eq_true_eq]
   split at ht<;>split at hs<;>exact⟨by omega,by omega⟩) ?_
  show _↔BL w fmS.mask=bits
  rw[hc,show fmS.mask=0x707f from rfl,XO hw,←hb,show F0 115 ⟨k,0,(w/32768%32).toNat,(w/1048576%32).toNat,tkS w,false,false⟩=Be k+f3L.getD k.toNat 0*4096+0*128+((w/32768%32).toNat:Int)*32768+((w/1048576%32).toNat:Int)*1048576+(Au (tkS w) 11 5*33554432+Au (tkS w) 4 0*128) from rfl,
   AT 11 5 32 128 rfl rfl,AT 4 0 1 32 rfl rfl]
  have ho:=Fa k;have h3:=MQ ⟨k.toNat,by omega⟩;simp only at h3;generalize Be k=o at *;generalize f3L.getD k.toNat 0=f at *;unfold U32 at hw hu;generalize tkS w=x at *;obtain⟨e1,e2⟩:=Y0 (x:=x) (p:=w/2147483648) (q:=w/33554432%128) (r:=w/128%32) (by omega) (by omega) (by split at ht<;>omega);rw[e1,e2];clear e1 e2 ht hs hu hc;have hd:=Xs w;rw[A6 ⟨by omega,by omega⟩];omega
 ·rw[hc];exact cell rfl rfl (by show _=(AB w 19 15).toNat;rw[Oy hw]) (by show _=(AB w 24 20).toNat;rw[Tk hw]) rfl rfl rfl
theorem r_i {w k bits:Int} (hw:U32 w) (hk:0≤k∧k<60) (hf:AA k=105∨AA k=108) (hb:Be k+f3L.getD k.toNat 0*4096=bits):Et w k (k,fmI,bits):=by
 have hc:AR w k=⟨k,(w/128%32).toNat,(w/32768%32).toNat,0,tkI w,false,false⟩:=by unfold AR;rcases hf with hf|hf<;>rw[hf,H9 _ (by decide),JO _ (by decide)]<;>exact cell rfl rfl rfl rfl (aR hw) rfl rfl
 have ht:=T6 hw;have hu:U32 (tkI w):=by rw[ht];unfold U32 at hw;split<;>exact⟨by omega,by omega⟩
 have hs:=Gr hu;have hm:(decide (-2048≤sgn (tkI w)) && decide (sgn (tkI w)≤2047))=true:=by unfold U32 at hw hu;simp only[Bool.and_eq_true,decide_eq_true_eq];split at ht<;>split at hs<;>exact⟨by omega,by omega⟩
 have he:(w32 (Be k+f3L.getD k.toNat 0*4096+((w/128%32).toNat:Int)*128+((w/32768%32).toNat:Int)*32768+0*1048576+Au (tkI w) 11 0*1048576)=w)↔BL w fmI.mask=bits:=by rw[show fmI.mask=0x707f from rfl,XO hw,←hb,AT 11 0 1 4096 rfl rfl];have ho:=Fa k;have h3:=MQ ⟨k.toNat,by omega⟩;simp only at h3;generalize Be k=o at *;generalize f3L.getD k.toNat 0=f at *;unfold U32 at hw hu;generalize tkI w=x at *;have e1:=YY (x:=x) (p:=w/2147483648) (q:=w/1048576%4096) (by omega) (by split at ht<;>omega);rw[e1,A6 ⟨by omega,by omega⟩];omega
 refine⟨?_,?_⟩
 ·rcases hf with hf|hf
  ·exact Dq hf (by decide) (by rw[hc];exact hm) (by rw[hc];exact he)
  ·exact Dq hf (by decide) (by rw[hc];exact hm) (by rw[hc];exact he)
 ·rw[hc];exact cell rfl (by show _=(AB w 11 7).toNat;rw[Nk hw]) (by show _=(AB w 19 15).toNat;rw[Oy hw]) rfl rfl rfl rfl
theorem CJ {w:Int} (hw:U32 w):∃q d f a b s:Int,w%128=q∧w/128%32=d∧w/4096%8=f∧w/32768%32=a∧w/1048576%32=b∧w/33554432%128=s ∧
  w=q+d*128+f*4096+a*32768+b*1048576+s*33554432∧(0≤q∧q<128)∧(0≤d∧d<32)∧(0≤f∧f<8)∧(0≤a∧a<32)∧(0≤b∧b<32)∧(0≤s∧s<128):=by
 unfold U32 at hw;exact⟨_,_,_,_,_,_,rfl,rfl,rfl,rfl,rfl,rfl,by omega,by omega,by omega,by omega,by omega,by omega,by omega⟩
theorem Tm {w s:Int} (hw:U32 w) (h:w/33554432%128=s):∃x y z:Int,w/134217728%32=x∧w/67108864%2=y∧w/33554432%2=z∧s=x*4+y*2+z∧(0≤x∧x<32)∧(0≤y∧y<2)∧(0≤z∧z<2):=by unfold U32 at hw;exact⟨_,_,_,rfl,rfl,rfl,by omega,by omega,by omega,by omega⟩
theorem r_h {w k bits:Int} (hw:U32 w) (hk:0≤k∧k<60) (hf:AA k=104) (hb:Be k+f3L.getD k.toNat 0*4096+f7F k.toNat*33554432=bits):Et w k (k,CM,bits):=by
 have hc:AR w k=⟨k,(w/128%32).toNat,(w/32768%32).toNat,0,w/1048576%32,false,false⟩:=by unfold AR;rw[hf,H9 104 (by decide),JO 104 (by decide)];exact cell rfl rfl rfl rfl (AT 24 20 1048576 32 rfl rfl) rfl rfl
 have hu:U32 (w/1048576%32):=⟨by omega,by omega⟩
 have hs:=Gr hu;refine⟨?_,?_⟩
 ·refine Dq hf (by decide) (by
   rw[hc];show(decide (0≤sgn (w/1048576%32)) && decide (sgn (w/1048576%32)≤31))=true;simp only[Bool.and_eq_true,decide_eq_true_eq]
   split at hs<;>exact⟨by omega,by omega⟩) ?_
  show _↔BL w CM.mask=bits;rw[hc,show CM.mask=0xfe00707f from rfl,bL hw,←hb,show F0 104 ⟨k,(w/128%32).toNat,(w/32768%32).toNat,0,w/1048576%32,false,false⟩=Be k+f3L.getD k.toNat 0*4096+((w/128%32).toNat:Int)*128+((w/32768%32).toNat:Int)*32768+0*1048576+(f7F k.toNat*33554432+w/1048576%32*1048576) from rfl];have ho:=Fa k;have h3:=MQ ⟨k.toNat,by omega⟩;have h7:=Vc ⟨k.toNat,by omega⟩;simp only at h3 h7;generalize Be k=o at *;generalize f3L.getD k.toNat 0=f at *;generalize f7F k.toNat=g at *;obtain⟨q,d,f',a,b,s,e1,e2,e3,e4,e5,e6,hsum,b1,b2,b3,b4,b5,b6⟩:=CJ hw
  rw[e1,e2,e3,e4,e5,e6,show(d.toNat:Int)=d by omega,show(a.toNat:Int)=a by omega];clear e1 e2 e3 e4 e5 e6 hw hc hu hs;rw[A6 ⟨by omega,by omega⟩];constructor<;>intro hh<;>omega
 ·rw[hc];exact cell rfl (by show _=(AB w 11 7).toNat;rw[Nk hw]) (by show _=(AB w 19 15).toNat;rw[Oy hw]) rfl (by show _=AB w 24 20;rw[Tk hw]) rfl rfl
theorem r_r {w k bits:Int} (hw:U32 w) (hk:0≤k∧k<60) (hf:AA k=114) (hb:Be k+f3L.getD k.toNat 0*4096+f7F k.toNat*33554432=bits):Et w k (k,fmR,bits):=by
 have hc:AR w k=⟨k,(w/128%32).toNat,(w/32768%32).toNat,(w/1048576%32).toNat,0,false,false⟩:=by unfold AR;rw[hf,H9 114 (by decide),JO 114 (by decide),PY 114 (by decide)];rfl
 refine⟨?_,?_⟩
 ·refine Dq hf (by decide) (by rw[hc];rfl) ?_;show _↔BL w fmR.mask=bits;rw[hc,show fmR.mask=0xfe00707f from rfl,bL hw,←hb,show F0 114 ⟨k,(w/128%32).toNat,(w/32768%32).toNat,(w/1048576%32).toNat,0,false,false⟩=Be k+f3L.getD k.toNat 0*4096+((w/128%32).toNat:Int)*128+((w/32768%32).toNat:Int)*32768+((w/1048576%32).toNat:Int)*1048576+(0+f7F k.toNat*33554432) from rfl];have ho:=Fa k;have h3:=MQ ⟨k.toNat,by omega⟩;have h7:=Vc ⟨k.toNat,by omega⟩;simp only at h3 h7;generalize Be k=o at *;generalize f3L.getD k.toNat 0=f at *;generalize f7F k.toNat=g at *
  obtain⟨q,d,f',a,b,s,e1,e2,e3,e4,e5,e6,hsum,b1,b2,b3,b4,b5,b6⟩:=CJ hw;rw[e1,e2,e3,e4,e5,e6,show(d.toNat:Int)=d by omega,show(a.toNat:Int)=a by omega,show(b.toNat:Int)=b by omega];clear e1 e2 e3 e4 e5 e6 hw hc;rw[A6 ⟨by omega,by omega⟩];constructor<;>intro hh<;>omega
 ·rw[hc];exact cell rfl (by show _=(AB w 11 7).toNat;rw[Nk hw]) (by show _=(AB w 19 15).toNat;rw[Oy hw]) (by show _=(AB w 24 20).toNat;rw[Tk hw]) rfl rfl rfl
theorem r_f {w k bits:Int} (hw:U32 w) (hf:AA k=102) (hb:Be k=bits) (h0:f3L.getD k.toNat 0=0):Et w k (k,DQ,bits):=by
 have hc:AR w k=⟨k,0,0,0,w/1048576%256,false,false⟩:=by unfold AR;rw[hf];exact cell rfl rfl rfl rfl (AT 27 20 1048576 256 rfl rfl) rfl rfl
 have hu:U32 (w/1048576%256):=⟨by omega,by omega⟩
 have hs:=Gr hu;refine⟨?_,?_⟩
 ·refine Dq hf (by decide) (by
   rw[hc];show(decide (0≤sgn (w/1048576%256)) && decide (sgn (w/1048576%256)≤255))=true;simp only[Bool.and_eq_true,decide_eq_true_eq]
   split at hs<;>exact⟨by omega,by omega⟩) ?_
  show _↔BL w DQ.mask=bits;rw[hc,show DQ.mask=0xf00fffff from rfl,jY hw,←hb,show F0 102 ⟨k,0,0,0,w/1048576%256,false,false⟩=Be k+f3L.getD k.toNat 0*4096+0*128+0*32768+0*1048576+w/1048576%256*1048576 from rfl,h0];have ho:=Fa k;generalize Be k=o at *;unfold U32 at hw;rw[A6 ⟨by omega,by omega⟩];omega
 ·rw[hc];exact cell rfl rfl rfl rfl (B4 hw 27 20 1048576 256 (by decide) (by decide) rfl rfl rfl rfl).symm rfl rfl
theorem r_e {w k bits:Int} (hw:U32 w) (hf:AA k=101) (hb:Be k=bits) (h0:f3L.getD k.toNat 0=0) (h7:f7F k.toNat=0):Et w k (k,GI,bits):=by
 have hc:AR w k=⟨k,0,0,0,0,false,false⟩:=by unfold AR;rw[hf];rfl
 refine⟨?_,?_⟩
 ·refine Dq hf (by decide) (by rw[hc];rfl) ?_;show _↔BL w GI.mask=bits;rw[hc,show GI.mask=0xffffffff from rfl,XP hw,←hb,show F0 101 ⟨k,0,0,0,0,false,false⟩=Be k+f3L.getD k.toNat 0*4096+0*128+0*32768+0*1048576+(0+f7F k.toNat*33554432) from rfl,h0,h7];have ho:=Fa k;generalize Be k=o at *;rw[A6 ⟨by omega,by omega⟩];omega
 ·rw[hc];rfl
theorem UG {x:Int} {p:Prop} [Decidable p]:(bif decide p then x else 0)=if p then x else 0:=by by_cases h:p<;>simp[h]
theorem UC {w f:Int} (hf:f=97∨f=113):aqF f w 26=decide (w/67108864%2=1)∧aqF f w 25=decide (w/33554432%2=1):=by unfold aqF;rw[if_pos hf,if_pos hf,AT 26 26 67108864 2 rfl rfl,AT 25 25 33554432 2 rfl rfl];exact⟨rfl,rfl⟩
theorem r_q {w k bits:Int} (hw:U32 w) (hk:0≤k∧k<60) (hf:AA k=113) (g:Int) (hg:f7F k.toNat=4*g) (hb:Be k+f3L.getD k.toNat 0*4096+g*134217728=bits):Et w k (k,Lq,bits):=by
 have hc:AR w k=⟨k,(w/128%32).toNat,(w/32768%32).toNat,0,0,decide (w/67108864%2=1),decide (w/33554432%2=1)⟩:=by unfold AR;rw[hf,H9 113 (by decide),JO 113 (by decide),(UC (w:=w) (.inr rfl)).1,(UC (w:=w) (.inr rfl)).2];rfl
 refine⟨?_,?_⟩
 ·refine Dq hf (by decide) (by rw[hc];rfl) ?_;show _↔BL w Lq.mask=bits;rw[hc,show Lq.mask=0xf9f0707f from rfl,jZ hw,←hb,show F0 113 ⟨k,(w/128%32).toNat,(w/32768%32).toNat,0,0,decide (w/67108864%2=1),decide (w/33554432%2=1)⟩=Be k+f3L.getD k.toNat 0*4096+((w/128%32).toNat:Int)*128+((w/32768%32).toNat:Int)*32768+0*1048576+((bif decide (w/67108864%2=1) then 67108864 else 0)+(bif decide (w/33554432%2=1) then 33554432 else 0)+f7F k.toNat*33554432) from rfl,UG,UG];have ho:=Fa k;have h3:=MQ ⟨k.toNat,by omega⟩;have h7:=Vc ⟨k.toNat,by omega⟩;simp only at h3 h7
  rw[hg] at h7⊢;generalize Be k=o at *;generalize f3L.getD k.toNat 0=f at *;have e1:(if w/67108864%2=1 then(67108864:Int) else 0)=w/67108864%2*67108864:=by split<;>omega
  have e2:(if w/33554432%2=1 then(33554432:Int) else 0)=w/33554432%2*33554432:=by split<;>omega
  rw[e1,e2];clear e1 e2 hc;obtain⟨q,d,f',a,b,s,e1,e2,e3,e4,e5,e6,hsum,b1,b2,b3,b4,b5,b6⟩:=CJ hw;obtain⟨x,y,z,e7,e8,e9,hs,b7,b8,b9⟩:=Tm hw e6;rw[e1,e2,e3,e4,e5,e7,e8,e9,show(d.toNat:Int)=d by omega,show(a.toNat:Int)=a by omega];clear e1 e2 e3 e4 e5 e6 e7 e8 e9 hw;rw[A6 ⟨by omega,by omega⟩];constructor<;>intro hh<;>omega
 ·rw[hc];exact cell rfl (by show _=(AB w 11 7).toNat;rw[Nk hw]) (by show _=(AB w 19 15).toNat;rw[Oy hw]) rfl rfl (by show _=decide (AB w 26 26=1);rw[bS hw]) (by show _=decide (AB w 25 25=1);rw[bT hw])
theorem r_a {w k bits:Int} (hw:U32 w) (hk:0≤k∧k<60) (hf:AA k=97) (g:Int) (hg:f7F k.toNat=4*g) (hb:Be k+f3L.getD k.toNat 0*4096+g*134217728=bits):Et w k (k,fmA,bits):=by
 have hc:AR w k=⟨k,(w/128%32).toNat,(w/32768%32).toNat,(w/1048576%32).toNat,0,decide (w/67108864%2=1),decide (w/33554432%2=1)⟩:=by unfold AR;rw[hf,H9 97 (by decide),JO 97 (by decide),PY 97 (by decide),(UC (w:=w) (.inl rfl)).1,(UC (w:=w) (.inl rfl)).2];rfl
 refine⟨?_,?_⟩
 ·refine Dq hf (by decide) (by rw[hc];rfl) ?_;show _↔BL w fmA.mask=bits;rw[hc,show fmA.mask=0xf800707f from rfl,jV hw,←hb,show F0 97 ⟨k,(w/128%32).toNat,(w/32768%32).toNat,(w/1048576%32).toNat,0,decide (w/67108864%2=1),decide (w/33554432%2=1)⟩=Be k+f3L.getD k.toNat 0*4096+((w/128%32).toNat:Int)*128+((w/32768%32).toNat:Int)*32768+((w/1048576%32).toNat:Int)*1048576+((bif decide (w/67108864%2=1) then 67108864 else 0)+(bif decide (w/33554432%2=1) then 33554432 else 0)+f7F k.toNat*33554432) from rfl,UG,UG];have ho:=Fa k;have h3:=MQ ⟨k.toNat,by omega⟩
  have h7:=Vc ⟨k.toNat,by omega⟩;simp only at h3 h7;rw[hg] at h7⊢;generalize Be k=o at *;generalize f3L.getD k.toNat 0=f at *;have e1:(if w/67108864%2=1 then(67108864:Int) else 0)=w/67108864%2*67108864:=by split<;>omega
  have e2:(if w/33554432%2=1 then(33554432:Int) else 0)=w/33554432%2*33554432:=by split<;>omega
  rw[e1,e2];clear e1 e2 hc;obtain⟨q,d,f',a,b,s,e1,e2,e3,e4,e5,e6,hsum,b1,b2,b3,b4,b5,b6⟩:=CJ hw;obtain⟨x,y,z,e7,e8,e9,hs,b7,b8,b9⟩:=Tm hw e6;rw[e1,e2,e3,e4,e5,e7,e8,e9,show(d.toNat:Int)=d by omega,show(a.toNat:Int)=a by omega,show(b.toNat:Int)=b by omega];clear e1 e2 e3 e4 e5 e6 e7 e8 e9 hw;rw[A6 ⟨by omega,by omega⟩];constructor<;>intro hh<;>omega
 ·rw[hc];exact cell rfl (by show _=(AB w 11 7).toNat;rw[Nk hw]) (by show _=(AB w 19 15).toNat;rw[Oy hw]) (by show _=(AB w 24 20).toNat;rw[Tk hw]) rfl (by show _=decide (AB w 26 26=1);rw[bS hw]) (by show _=decide (AB w 25 25=1);rw[bT hw])
theorem r_c {w k bits:Int} (hw:U32 w) (hk:0≤k∧k<60) (hf:AA k=99) (hb:Be k+f3L.getD k.toNat 0*4096+4047503360=bits):Et w k (k,F5,bits):=by
 have hc:AR w k=⟨k,(w/128%32).toNat,0,0,0,false,false⟩:=by unfold AR;rw[hf,H9 99 (by decide)];rfl
 refine⟨?_,?_⟩
 ·refine Dq hf (by decide) (by rw[hc];rfl) ?_;show _↔BL w F5.mask=bits;rw[hc,show F5.mask=0xfffff07f from rfl,jX hw,←hb,show F0 99 ⟨k,(w/128%32).toNat,0,0,0,false,false⟩=Be k+f3L.getD k.toNat 0*4096+((w/128%32).toNat:Int)*128+0*32768+0*1048576+4047503360 from rfl];have ho:=Fa k;have h3:=MQ ⟨k.toNat,by omega⟩;simp only at h3;generalize Be k=o at *;generalize f3L.getD k.toNat 0=f at *;unfold U32 at hw;rw[A6 ⟨by omega,by omega⟩];omega
 ·rw[hc];exact cell rfl (by show _=(AB w 11 7).toNat;rw[Nk hw]) rfl rfl rfl rfl rfl
theorem Yi {w:Int} (hw:U32 w) {r:Int × Fm × Int} (h:r∈Ba):Et w r.1 r:=by
 simp only[Ba,List.mem_cons,List.not_mem_nil,or_false] at h;rcases h with rfl|rfl|rfl|rfl|rfl|rfl|rfl|rfl|rfl|rfl|rfl|rfl|rfl|rfl|rfl|rfl|rfl|rfl|rfl|rfl|rfl|rfl|rfl|rfl|rfl|rfl|rfl|rfl|rfl|rfl|rfl|rfl|rfl|rfl|rfl|rfl|rfl|rfl|rfl|rfl|rfl|rfl|rfl|rfl|rfl|rfl|rfl|rfl|rfl|rfl|rfl|rfl|rfl|rfl|rfl|rfl|rfl|rfl|rfl
 all_goals dsimp only
 all_goals first
  | exact r_u hw (by unfold AA;decide) (by unfold Be;decide)
  | exact r_j hw (by unfold AA;decide) (by unfold Be;decide)
  | exact r_i hw (by decide) (by unfold AA;decide) (by unfold Be;decide)
  | exact r_b hw (by decide) (by unfold AA;decide) (by unfold Be;decide)
  | exact r_s hw (by decide) (by unfold AA;decide) (by unfold Be;decide)
  | exact r_h hw (by decide) (by unfold AA;decide) (by unfold Be;decide)
  | exact r_r hw (by decide) (by unfold AA;decide) (by unfold Be;decide)
  | exact r_f hw (by unfold AA;decide) (by unfold Be;decide) rfl
  | exact r_e hw (by unfold AA;decide) (by unfold Be;decide) rfl rfl
  | exact r_q hw (by decide) (by unfold AA;decide) _ rfl (by unfold Be;decide)
  | exact r_a hw (by decide) (by unfold AA;decide) _ rfl (by unfold Be;decide)
  | exact r_c hw (by decide) (by unfold AA;decide) (by unfold Be;decide)
theorem VP:∀i:_root_.Fin 59,(Ba.map Prod.fst)[i.1]? = some ((i.1:Int)+1):=by decide
theorem Ko {w:Int} (hw:U32 w):∀n:Nat,n≤59→Gi w n (60-(n:Int))=match (Ba.drop (59-n)).find? (fun r=>decide (BL w r.2.1.mask=r.2.2)) with|some r=>(Vn w r,true)|none=>(Jv,false)
 | 0,_=>rfl
 | n+1,hn=>by
  have hl:59-(n+1)<Ba.length:=by show _<59;omega
  have h1:=VP ⟨59-(n+1),by omega⟩;rw[List.getElem?_map,List.getElem?_eq_getElem hl] at h1;have h2:(Ba[59-(n+1)]).1=60-((n+1:Nat):Int):=by have:=Option.some.inj h1;simp only at this;rw[this];omega
  have hr:=Yi hw (List.getElem_mem hl);rw[h2] at hr;rw[List.drop_eq_getElem_cons hl,List.find?_cons,←hr.fit];show(if J4 w (60-((n+1:Nat):Int))=true then(AR w (60-((n+1:Nat):Int)),true) else Gi w n (60-((n+1:Nat):Int)+1))=_;cases hq:J4 w (60-((n+1:Nat):Int)) with
  | true=>rw[if_pos rfl];exact congrArg (·,true) hr.ins
  | false=>
   rw[if_neg (by decide),show(60-((n+1:Nat):Int)+1)=60-(n:Int) by omega,Ko hw n (by omega),show 59-(n+1)+1=59-n by omega]
theorem Xr {w:Int} (hw:U32 w):Gi w 59 1=AO w:=Ko hw 59 (by omega)
theorem c65 (w:Int) (hw:U32 w:=by assumption):Sp Tryz.prog 65 [.int .u32 w] [] fun K=>K (.returned (.tuple #[.agg (En.arr (AO w).1),.bool (AO w).2])) []:=by rw[←Xr hw];exact d65 w hw
def EO (w:Int):Bool := !(AO w).2 || !(decide ((AO w).1.op=4) || (decide (3≤(AO w).1.op) && decide ((AO w).1.op≤10) && (decide (2147483648≤(AO w).1.imm) || decide ((AO w).1.imm=0))))
theorem c29 (c:Ck) (A:Option Addr) (cap:Nat) (code:List Int) (hR:code≠[]→Rd D5 c A cap code) (hu:∀a∈code,U32 a) (hl:code.length≤1048576):Sp Tryz.prog 29 [.slice A code.length cap] [c] fun K=>((∀(j:Nat) (h:j<code.length),EO code[j]=true)→K (.returned (.bool true)) [c])∧((¬∀(j:Nat) (h:j<code.length),EO code[j]=true)→K (.returned (.bool false)) [c]):=by
 refine Zen Tryz.func29 U U U fun e X Φ hS=>Zsr<|Zy U<|Aj<|Zy U<|Zn ?_;refine Zbl ?_;refine Zlq (ι:={ i:Nat // i≤code.length∧∀(j:Nat) (h:j<code.length),j<i→EO code[j]=true }) (fun i=>[(3,.int .i64 (i.1:Int)),(0,.slice A code.length cap)]) (fun _=>[c]) (fun i=>code.length-i.1) ⟨0,Nat.zero_le _,fun j y hj=>by omega⟩ ⟨U,U,trivial⟩ [0] U fun i=>Zsq<|Zsr<|Zb 2 U<|Zv (Aw ⟨_,Tryz.underlying62⟩ U)<|Zv (ylt U U)<|Zn<|Zif U (fun h9=>?_) (fun h9=>?_);refine Zkn<|Zsq<|Zbl<|Zsr<|Zb 2 U ?_;rotate_left;refine Zex<|Zxt<|Zxt<|Zxx<|Zxs<|Zy U<|Znr ?_;rotate_left
 ·have hlt:i.1<code.length:=by omega
  have hR2:=hR (List.ne_nil_of_length_pos (by omega));have huw:=hu _ (List.getElem_mem hlt)
  have hstep:EO code[i.1]=true→∀(j:Nat) (h:j<code.length),j<i.1+1→EO code[j]=true:=fun hs j hj hji=>by
   rcases Nat.lt_succ_iff_lt_or_eq.1 hji with h|h
   ·exact i.2.2 j hj h
   ·subst h;exact hs
  refine Zv (yea 0 hR2 U U U (by first|assumption|omega) U Tryz.underlying62 U)<|Zv (yec (m:=0) 0 hR2 U (gE (by first|assumption|omega)) U U U)<|Zk (c65 ..) [] U U<|Zq<|Zb 3 U<|Ze (eal J0) fun b4=>Zw<|Ze (esw 0 (m:=7) U U U U U (Enc.len ..) (Enc.allL ..))<|Zw0<|Zy U ?_;refine Aj<|Zb 2 U<|Zn<|Zib U (fun h21=>?_) (fun h21=>?_);refine Zex<|Zxt<|Zxx<|Znx<|Zrg<|Zm U<|Zv (Ac U U (Ar U (by omega)))<|Zy U<|Znl ?_;rotate_left;refine Zks<|Za 4 [0,0] U U<|Zc 19 [0,0,0,0,4,0,4,0] U U<|Zn ?_;refine Zib U (fun h44=>?_) (fun h44=>?_);refine Zsr<|Zy U<|Znr<|Zr2<|Zr1<|Zr1<|Zr2<|Zr1 ?_
  rotate_left;refine Zsk<|Zxn<|Znx<|Zrg<|Zm U<|Zv (Ac U U (Ar U (by omega)))<|Zy U<|Znl ?_;rotate_left
  ·have hs:EO code[i.1]=true:=by unfold EO;rw[h21];rfl
   refine Zlr ⟨i.1+1,hlt,hstep hs⟩ (by show code.length-(i.1+1)<code.length-i.1;omega) ⟨U,U,trivial⟩ [1] 1 U U
  ·refine Zre (.t U .n) (hS.2 fun hall=>by have:=hall i.1 hlt;unfold EO at this;rw[h21,h44] at this;cases this) [1] 1 U U U U
  ·have hs:EO code[i.1]=true:=by unfold EO;rw[h44,Bool.not_false,Bool.or_true]
   refine Zlr ⟨i.1+1,hlt,hstep hs⟩ (by show code.length-(i.1+1)<code.length-i.1;omega) ⟨U,U,trivial⟩ [1] 1 U U
 ·refine Zre (.t U .n) (hS.1 fun j hj=>i.2.2 j hj (by omega)) [0] 0 U U U U
abbrev DC:List Int:=[8323,115]
abbrev F4:List Int:=[7,0,0,0,0,0,0,0,0,0,0,0,0,0,0,0]
def prs (kk:IntKind):Nat→List Int→List (Nat × Value)
 | _,[]=>[]
 | s,v::vs=>(s,.int kk v)::prs kk (s+1) vs
theorem Ku {kk:IntKind}:∀(vs:List Int) (pre rest:List Value),rest.length=vs.length→Instr.fill (fun q=>some (q*1,1)) (pre++rest).toArray (prs kk pre.length vs)=some (pre++vs.map (Value.int kk)).toArray
 | [],pre,[],_=>rfl
 | v::vs,pre,r::rest,h=>by
  have hl:rest.length=vs.length:=by simpa using h
  show Instr.fill _ (pre++r::rest).toArray ((pre.length,.int kk v)::prs kk (pre.length+1) vs)=_;unfold Instr.fill;dsimp only;have hc:(Value.int kk v).cells=#[Value.int kk v]:=rfl;rw[if_neg (by rw[hc];simp),hc];have e:(#[Value.int kk v].zipIdx.foldl (fun cs x=>cs.setIfInBounds (pre.length*1+x.2) x.1) (pre++r::rest).toArray)=((pre++[Value.int kk v])++rest).toArray:=by simp
  have ih:=Ku (kk:=kk) vs (pre++[Value.int kk v]) rest hl;rw[List.length_append,List.length_singleton] at ih;have e2:pre++(v::vs).map (Value.int kk)=pre++[Value.int kk v]++vs.map (Value.int kk):=by simp
  rw[e2,←ih,←e]
theorem MR {kk:IntKind} {vs:List Int} {zz:Array Value} (h:zz.size=vs.length):Instr.fill (fun q=>some (q*1,1)) zz (prs kk 0 vs)=some (vs.map (Value.int kk)).toArray:=by
 rcases zz with⟨l⟩
 exact Ku vs [] l (by simpa using h)
section
variable {N:Nat × List Deferred} {T:Tb} {e:World} {L:List Ck} {x0 x1:Operand} {ty:TypeId} {pos:String} {af:Array Edge} {g:Option (Nat × Bool)} {dd:Option Nat}
theorem iQ {a b:Int} (h0:evT T x0=some (.int .u32 a)) (h1:evT T x1=some (.int .u32 b)):Ef Tryz.prog N T e L ⟨dd,.buildSlice 62 2 #[(0,x0),(1,x1)],ty,pos,af,g⟩ fun K=>∀A,K (some (.slice A 2 2)) (.hp (own D5 A 2 [a,b])::L):=fun ac w fr hp G kk => .inl (by
 obtain⟨i,z,hi,hz,hsz,hby,hzc⟩:=Ks.info;have hs1:i.size=1:=hsz;refine⟨.slice (some ⟨w.heap.size,0,none⟩) 2 2,w.alloc (.cells #[.int .u32 a,.int .u32 b] 40),?_,kk _ _ (hp.ownNew ((AJ.refl _ w).alloc _) ⟨by simp,by decide,.inr ⟨_,0,_,rfl,Go.heap_alloc_new w _,by simp[D5,C7],by simp[D5,C7]⟩⟩ DR)⟩;have hfill:Instr.fill (fun q=>some (q*i.size,i.size)) ((Array.range (2*i.size)).map (z.cells[· % z.cells.size]!)) [(0,.int .u32 a),(1,.int .u32 b)]=some #[.int .u32 a,.int .u32 b]:=by rw[hs1];exact MR (kk := .u32) (vs:=[a,b]) (by simp)
 have:=run_buildSlice (P:=Tryz.prog) w 62 40 2 #[(0,.int .u32 a),(1,.int .u32 b)] #[.int .u32 a,.int .u32 b] i z Ks.ty hi hz (by rw[hs1];omega) (by rw[hs1];omega) hfill
 simp[execOp,fr.evT h0,fr.evT h1,this])
theorem aC:Ef Tryz.prog N T e L ⟨dd,.buildSlice 23 16 #[(0,.const (.int .u8 7)),(1,.const (.int .u8 0)),(2,.const (.int .u8 0)),(3,.const (.int .u8 0)),(4,.const (.int .u8 0)),(5,.const (.int .u8 0)),(6,.const (.int .u8 0)),(7,.const (.int .u8 0)),(8,.const (.int .u8 0)),(9,.const (.int .u8 0)),(10,.const (.int .u8 0)),(11,.const (.int .u8 0)),(12,.const (.int .u8 0)),(13,.const (.int .u8 0)),(14,.const (.int .u8 0)),(15,.const (.int .u8 0))],ty,pos,af,g⟩ fun K=>∀A,K (some (.slice A 16 16)) (.hp (own u8E A 16 F4)::L):=fun ac w fr hp G kk => .inl (by
 obtain⟨i,z,hi,hz,hsz,hby,hzc⟩:=Sl.info;have hs1:i.size=1:=hsz;refine⟨.slice (some ⟨w.heap.size,0,none⟩) 16 16,w.alloc (.cells #[.int .u8 7,.int .u8 0,.int .u8 0,.int .u8 0,.int .u8 0,.int .u8 0,.int .u8 0,.int .u8 0,.int .u8 0,.int .u8 0,.int .u8 0,.int .u8 0,.int .u8 0,.int .u8 0,.int .u8 0,.int .u8 0] 5),?_,kk _ _ (hp.ownNew ((AJ.refl _ w).alloc _) ⟨by simp,by decide,.inr ⟨_,0,_,rfl,Go.heap_alloc_new w _,by simp[u8E,C7],by simp[u8E,C7]⟩⟩ DR)⟩
 have hfill:Instr.fill (fun q=>some (q*i.size,i.size)) ((Array.range (16*i.size)).map (z.cells[· % z.cells.size]!)) [(0,.int .u8 7),(1,.int .u8 0),(2,.int .u8 0),(3,.int .u8 0),(4,.int .u8 0),(5,.int .u8 0),(6,.int .u8 0),(7,.int .u8 0),(8,.int .u8 0),(9,.int .u8 0),(10,.int .u8 0),(11,.int .u8 0),(12,.int .u8 0),(13,.int .u8 0),(14,.int .u8 0),(15,.int .u8 0)]=some #[.int .u8 7,.int .u8 0,.int .u8 0,.int .u8 0,.int .u8 0,.int .u8 0,.int .u8 0,.int .u8 0,.int .u8 0,.int .u8 0,.int .u8 0,.int .u8 0,.int .u8 0,.int .u8 0,.int .u8 0,.int .u8 0]:=by
  rw[hs1];exact MR (kk := .u8) (vs:=F4) (by simp)
 have:=run_buildSlice (P:=Tryz.prog) w 23 5 16 #[(0,.int .u8 7),(1,.int .u8 0),(2,.int .u8 0),(3,.int .u8 0),(4,.int .u8 0),(5,.int .u8 0),(6,.int .u8 0),(7,.int .u8 0),(8,.int .u8 0),(9,.int .u8 0),(10,.int .u8 0),(11,.int .u8 0),(12,.int .u8 0),(13,.int .u8 0),(14,.int .u8 0),(15,.int .u8 0)] #[.int .u8 7,.int .u8 0,.int .u8 0,.int .u8 0,.int .u8 0,.int .u8 0,.int .u8 0,.int .u8 0,.int .u8 0,.int .u8 0,.int .u8 0,.int .u8 0,.int .u8 0,.int .u8 0,.int .u8 0,.int .u8 0] i z Sl.ty hi hz (by rw[hs1];omega) (by rw[hs1];omega) hfill
 simp[execOp,Act.eval,this])
end
def NL (A A2 B:Option Addr):Wld:=⟨A,1,[(A2,2,DC)],B,16,F4,1,1⟩
def m2:MD:=EF [DC] F4 1 1
def r2 (n:Nat):MD × List Did:=Cv n (m2,[])
def Wt:Bool:=Da (r2 5).1 && (List.range 5).all (fun j => !Da (r2 j).1) && decide ((r2 5).2.length=2) && decide ((r2 5).1.C.length=1) && (r2 5).1.C.all fun c=>decide (c.h.reg 1=7) && decide (c.h.cause=1)
theorem QD:Wt=true:=by decide+kernel
theorem Arg.ext {p q:HP} (a:Arg p q) (M:List Ck):Arg (Sep (.hp p::M)) (Sep (.hp q::M)):=⟨fun h hs=>(a.un hs).mapTl fun _ hs=>BN hs,fun h hs=>a.re (X:=M) (hs.mapTl fun _ hs=>by
 have h2:=hs.flat
 rwa[List.append_nil] at h2)⟩
theorem Rd.nil {α:Type} [DecidableEq α] {E:Enc Tryz.prog α} {c:Ck}:Rd E c none 0 []:=fun g hc w hl=>(own.at_ (own.nil g) hl).view
theorem V8 {p:HP} (A A2 B:Option Addr) (hA2:A2≠none):(NL A A2 B).In (.hp (Sep [.hp p,.hp (own slE A 1 [(A2,2,DC)]),.hp (own D5 A2 2 DC),.hp (own u8E B 16 F4)])) where
 cds:=⟨OO (i:=1) rfl,fun x hx=>by
  rw[show(NL A A2 B).l=[(A2,2,DC)] from rfl,List.mem_singleton] at hx;subst hx;exact fun _=>OO (i:=2) rfl,fun x hx h0=>by
  rw[show(NL A A2 B).l=[(A2,2,DC)] from rfl,List.mem_singleton] at hx;subst hx;exact absurd h0 (by show¬(2=0);omega),fun x hx hn=>by
  rw[show(NL A A2 B).l=[(A2,2,DC)] from rfl,List.mem_singleton] at hx;subst hx;exact absurd hn hA2,fun x hx=>by
  rw[show(NL A A2 B).l=[(A2,2,DC)] from rfl,List.mem_singleton] at hx;subst hx;intro a ha;simp only[DC,List.mem_cons,List.not_mem_nil,or_false] at ha
  rcases ha with rfl|rfl<;>(unfold U32;omega)⟩
 b:=OO (i:=3) rfl
 r:=by show∀a∈F4,0≤a∧a<256;decide
theorem V9 (A A2 B:Option Addr):(NL A A2 B).ok=true:=by show(!szF ((F4.length:Nat):Int) && D1 [DC] 1 1)=true;decide+kernel
theorem c28 {p q:HP} (ap:Arg p q) {P:MD→Prop} (hP:RnP P) (h2:P m2):Sp Tryz.prog 28 [] [.hp p] fun K=>K (.returned (.bool true)) [.hp p]:=by
 refine Zen Tryz.func28 U U U fun e X Φ hS=>Zsr<|Zy U<|Zns ?_;refine Ze (iQ U U)<|fun A2=>Zw ?_;refine Zol 0 Ee U<|fun hA2 _ _=>?_;have hA2:A2≠none:=fun e=>by have:=(hA2 e).1;cases this
 refine Ze (iP (k:=(A2,2,DC)) U)<|fun A=>Zw ?_;refine Ze aC<|fun B=>Zw<|Zv (yb l86 U)<|Ze (eal z86) fun b1=>Zw<|Ze (esw 0 (m:=4) U U U U U U U)<|Zw0<|Zns<|Zv (ydw 0 (m:=4) U U U) ?_;refine Zfl [4,2,2,1] (show∀h,Sep [.hp p,.hp (own slE A 1 [(A2,2,DC)]),.hp (own D5 A2 2 DC),.hp (own u8E B 16 F4)] h→Sep [.hp p,.hp (own slE A 1 [(A2,2,DC)]),.hp (own D5 A2 2 DC),.hp (own u8E B 16 F4)] h from fun _ hs=>hs) U ?_
 refine Zk (c30 (ap.ext _) (NL A A2 B) (V8 A A2 B hA2) none 0 [] Rd.nil (Nat.le_refl _) (Nat.zero_le _) (fun a ha=>by cases ha) hP (fun _=>h2) 50 (by decide)) [0] U U<|⟨fun hok n hn hj hnr A3 cap3 B3 capb3 g3 o3 capm3=>?_,fun hz=>?_⟩
 rotate_left;rotate_left
 ·rw[show AP (NL A A2 B).m (B5 [])=(m2,[]) from rfl] at hj hnr⊢;have he:=QD;unfold Wt at he;simp only[Bool.and_eq_true,decide_eq_true_eq,List.all_eq_true,Bool.not_eq_true'] at he;obtain⟨⟨⟨⟨e1,e2⟩,e3⟩,e4⟩,e5⟩:=he
  have hn5:n=5:=by
   rcases Nat.lt_trichotomy n 5 with h|h|h
   ·have h1:=e2 n (List.mem_range.2 h);rcases hnr with h2|h2
    ·omega
    ·rw[show Cv n (m2,[])=r2 n from rfl,h1] at h2;cases h2
   ·exact h
   ·have h1:=hj 5 h;rw[show Cv 5 (m2,[])=r2 5 from rfl,e1] at h1;cases h1
  subst hn5;rw[show Cv 5 (m2,[])=r2 5 from rfl];generalize r2 5=r at e1 e3 e4 e5⊢;obtain⟨rm,ds⟩:=r;dsimp only at e1 e3 e4 e5⊢;have hl1:(rm.C.map (·.h)).length=1:=by rw[List.length_map];exact e4
  have hg:(rm.C.map (·.h))[0]? = some (rm.C.map (·.h))[0]:=gE (by omega);have hh:(rm.C.map (·.h))[0].reg 1=7∧(rm.C.map (·.h))[0].cause=1:=by rw[List.getElem_map];exact e5 _ (List.getElem_mem _)
  generalize(rm.C.map (·.h))[0]=h at hg hh;have n1:nth (Bh.cells h) 3=some (.int .u32 7):=by have:=DJ h 1;rwa[hh.1] at this
  have n2:nth (Bh.cells h) 34=some (.int .i64 1):=by have:=EG h;rwa[hh.2] at this
  rw[e1,e3];refine Zq<|Zb 4 U<|Ze (eal z90) fun b2=>Zw<|Ze (esw 0 (m:=4) U U U U U U U)<|Zw0<|Zb 2 U<|Znl ?_;refine Zxs<|Za 6 [3,0] U U ?_;refine Za 3 [1,0] U U<|Zg U U<|Zv (Aw ⟨_,Tryz.underlying65⟩ U)<|Zb 2 U ?_;refine Zm U<|Zg' U U (dT (by omega))<|Zv (yf 1 U)<|Zg' U U (dT (by omega))<|Zv (yd 0 U U U)<|Zg' U U (dT (by omega))<|Zv (yea (j:=0) 1 own.rd U U U (by first|assumption|omega) U Tryz.underlying65 U)<|Zg' U U (dT (by omega))<|Zv (yf 2 U)<|Zg' U U (dT (by omega)) ?_;refine Zv (yai (i:=1) Tryz.underlying57 U U (by decide))<|Zg' U U (dT (by omega)) ?_
  refine Zv (yec (m:=3) 1 own.rd U hg U n1 U)<|Zg' U U (dT (by omega))<|Zv (yeq U U)<|Zv (Ax U (dT (by omega)) U)<|Za 3 [1,0] U U<|Zg U U ?_;refine Zv (yea (j:=0) 1 own.rd U U U (by first|assumption|omega) U Tryz.underlying65 U)<|Za 1 [34] U U<|Zg U U ?_;refine Zv (yec (m:=34) 1 own.rd U hg U n2 U)<|Za 5 [0,0] U U<|Zg U U ?_;refine Zv (Aw ⟨_,Tryz.underlying33⟩ U)<|Zb 3 U<|Znr ?_;refine Zix (fun _ hs=>Sep.flat (Sep.tl (Sep.tl hs)))<|Zre (.t U .n) hS [0] 4 U U U U
 ·rw[V9] at hz;cases hz
structure PrW (x:Wld) (raw:List Int) (P:MD→Prop):Prop where
 st:RnP P
 p0:x.ok=true→x.Fit raw.length→(∀(j:Nat) (h:j<x.l.length) (k:Nat) (hk:k<x.l[j].2.2.length),EO x.l[j].2.2[k]=true)→P x.m
 r:x.ok=true→x.Fit raw.length→(∀(j:Nat) (h:j<x.l.length) (k:Nat) (hk:k<x.l[j].2.2.length),EO x.l[j].2.2[k]=true)→∀long:Nat,(∀(j:Nat) (h:j<x.l.length),x.l[j].2.2.length≤long)→∀n,n=256*(long+3)→(∀j,j<n→Da (Cv j (AP x.m (B5 raw))).1=false)→Da (Cv n (AP x.m (B5 raw))).1=true
theorem c6 {p q:HP} (ap:Arg p q) (x:Wld) (hx:x.In (.hp p)) (C:Option Addr) (capc:Nat) (raw:List Int) (hR:Rd u8E (.hp p) C capc raw) (hc1:raw.length≤capc) (hb:∀a∈raw,0≤a∧a<256) {P P2:MD→Prop} (hP:PrW x raw P) (hP2:RnP P2) (h2:P2 m2):Sp Tryz.prog 6 [.agg x.cells.toArray,.slice C raw.length capc] [.hp p] fun K=>K (.returned (.bool true)) [.hp p]:=by
 have hRc:=hx.cds.r;refine Zen Tryz.func6 U U U fun e X Φ hS=>Zsr<|Ze (ebx U) fun b2=>Zw<|Zy U<|Aj<|Zv (ydw 0 (m:=4) U U U)<|Zm U ?_;refine Zk (c27 (.hp p) x hx C raw.length capc) [1] U U<|⟨?_,?_⟩
 refine Zq<|Zn<|Zct U<|Zsr ?_;rotate_left;refine fun a=>Zq<|Znl<|Znx<|Zcf rfl<|Zsk<|Znx<|Zsr<|Zv (ya rfl)<|Znl ?_;refine Zxq<|Zsr<|Zy U<|Znb ?_;rotate_left
 ·refine Zk (c28 ap hP2 h2) [0] U U<|Zq<|Zy U<|Znr<|Zr1<|Zre (.t U .n) hS [0] 1 U U U U
 ·have hl6:=a.l
  refine Zlq (ι:={ t:Nat × Int // t.1≤x.l.length∧(0≤t.2∧t.2≤40)∧(∀(j:Nat) (h:j<x.l.length),j<t.1→(x.l[j].2.2.length:Int)≤t.2)∧∀(j:Nat) (h:j<x.l.length),j<t.1→∀(k:Nat) (hk:k<x.l[j].2.2.length),EO x.l[j].2.2[k]=true }) (fun t=>[(6,.int .i64 (t.1.1:Int)),(5,.int .i64 t.1.2),(2,pt b2),(1,.slice C raw.length capc)]) (fun _=>[.blk b2 86 x.cells,.hp p]) (fun t=>x.l.length-t.1.1) ⟨(0,0),Nat.zero_le _,by decide,fun j y hj=>absurd hj (Nat.not_lt_zero _),fun j y hj=>absurd hj (Nat.not_lt_zero _)⟩ ⟨U,U,U,U,trivial⟩ [1,0] U fun t=>Zsq<|Zsr<|Za 3 [0,0] U U<|Zv (Aw ⟨_,Tryz.underlying22⟩ U)<|Zv (ylt U U)<|Zn ?_
  refine Zif U (fun h19=>?_) (fun h19=>?_);refine Zkn<|Zsq<|Zbl<|Zsr<|Za 4 [0,0] U U<|Zv (yea 1 hRc U U U (by first|assumption|omega) U Tryz.underlying22 U) ?_;refine Zv (yec (m:=0) 1 hRc U (gE (by first|assumption|omega)) U U U)<|Zv (Aw ⟨_,Tryz.underlying62⟩ U)<|Zv (ymx U U U)<|Zy U<|Zns<|Za 3 [0,0] U U ?_;refine Zv (yea 1 hRc U U U (by first|assumption|omega) U Tryz.underlying22 U)<|Zv (yec (m:=0) 1 hRc U (gE (by first|assumption|omega)) U U U) ?_;rotate_left
  refine Zex<|Zxt<|Zxt<|Zxx<|Zxs<|Zm U<|Zv (Ac U U (Ar U (by omega)))<|Zv (AD U U (Ar U (by omega)))<|Zy U ?_;refine Zns<|Zv (ydw 0 (m:=4) U U U)<|Zb 2 U ?_;rotate_left
  ·have hlt:t.1.1<x.l.length:=by omega
   have hc:=a.c t.1.1 hlt;have hm:=List.getElem_mem hlt;refine Zk (c29 (.hp p) _ _ x.l[t.1.1].2.2 (fun hne=>hx.cds.w _ hm fun h0=>hne (hx.cds.z _ hm h0)) (hx.cds.u _ hm) (by omega)) [1] U U<|⟨?_,?_⟩
   refine fun a_1=>Zq<|Zv (BM rfl)<|Znl<|Znx<|Zcf rfl<|Zsk<|Zxn<|Znx<|Zrg ?_;refine Zm U<|Zv (Ac U U (Ar U (by omega)))<|Zy U<|Znl ?_;rotate_left;refine fun a_1=>Zq<|Zv (BM rfl)<|Znl<|Znx<|Zct rfl<|Zsr ?_;rotate_left
   ·refine Zlr ⟨(t.1.1+1,max t.1.2 x.l[t.1.1].2.2.length),hlt,by have:=t.2.2.1;show 0≤max t.1.2 (x.l[t.1.1].2.2.length:Int)∧max t.1.2 (x.l[t.1.1].2.2.length:Int)≤40;omega,fun j hj hji=>by show(x.l[j].2.2.length:Int)≤max t.1.2 (x.l[t.1.1].2.2.length:Int);rcases Nat.lt_succ_iff_lt_or_eq.1 hji with h|h;have:=t.2.2.2.1 j hj h;omega;subst h;omega,fun j hj hji=>by rcases Nat.lt_succ_iff_lt_or_eq.1 hji with h|h;exact t.2.2.2.2 j hj h;subst h;assumption⟩ (by show x.l.length-(t.1.1+1)<x.l.length-t.1.1;omega) ⟨U,U,U,U,trivial⟩ [1,0] 0 U U
   ·refine Zk (c28 ap hP2 h2) [0] U U<|Zq<|Zy U<|Znr<|Zr2<|Zr1<|Zr1<|Zr2 ?_;refine Zr1<|Zre (.t U .n) hS [0] 1 U U U U
  ·obtain⟨⟨i,v⟩,hi,⟨hv0,hv⟩,hle,hst⟩:=t;dsimp only at h19 hi hv0 hv hle hst⊢;have hi2:i=x.l.length:=by omega
   obtain⟨k,rfl⟩:=Int.eq_ofNat_of_zero_le hv0;rw[show(256*((k:Int)+3))=((256*(k+3):Nat):Int) by omega];refine Zk (c30 ap x hx C capc raw hR hc1 (by have:=a.n;omega) hb hP.st (fun ok=>hP.p0 ok a fun j hj k2 hk2=>hst j hj (by omega) k2 hk2) (256*(k+3)) (by omega)) [1] U U<|⟨?_,?_⟩
   refine fun a_1=>fun n=>fun a_2=>fun a_3=>fun a_4=>fun A=>fun cap=>fun B=>fun capb=>fun g=>?_;refine fun o=>fun capm=>Zq<|Zv (ym rfl)<|Zv (yx rfl rfl)<|Zv (yx rfl rfl)<|Zv (yx rfl rfl)<|Ze (eal z90) fun b8=>Zw<|Ze (esw 0 (m:=4) rfl rfl rfl rfl rfl rfl rfl)<|Zw0<|Zv (ya rfl) ?_;refine Zy U<|Aj<|Zb 2 U<|Zn<|Zcf U ?_;refine Zks<|Za 3 [3,0] U U<|Zgb U U (fun h58=>?_) (fun h58=>?_);refine Zg' U U h58<|Zm U<|Zg' U U h58<|Zm U<|Zg' U U h58<|Zv (yle U U)<|Zv (Ax U h58 U)<|Zm U<|Zg' U U (dT (by omega)) ?_;rotate_left
   refine Zu' U U h58 U<|Zu' U U h58 U<|Zu' U U h58 U<|Zv (Ao U h58 U)<|Zb 4 U<|Zn ?_;refine Zrt<|Zre (.t U .n) hS [2] 3 ?_ U U U;rotate_left;refine fun a_1=>Zq<|Zv (ym rfl)<|Zv (yx rfl rfl)<|Zv (yx rfl rfl)<|Zv (yx rfl rfl)<|Ze (eal z90) fun b8=>Zw<|Ze (esw 0 (m:=4) rfl rfl rfl rfl rfl rfl rfl)<|Zw0<|Zv (ya rfl)<|Zv (ya rfl) ?_;refine Aj<|Zb 2 U<|Zn<|Zct U<|Zsr ?_;refine Zb 3 U<|Zg U U ?_;rotate_left
   ·refine Zk (c28 ap hP2 h2) [2] U U<|Zq<|Zv (Ax U (dT (by omega)) U)<|Zy U<|Znr<|Zre (.t U .n) hS [0] 3 U U U U
   ·rcases a_4 with h|h
    ·exact absurd (hP.r a_1 a (fun j hj k2 hk2=>hst j hj (by omega) k2 hk2) k (fun j hj=>by have:=hle j hj (by omega);omega) n h a_3) (by rw[h58];simp)
    ·rw[h58] at h;cases h
   ·refine Zk (c28 ap hP2 h2) [1] U U<|Zq<|Zb 2 U<|Znr<|Zr1<|Zre (.t U .n) hS [0] 2 U U U U
end Go.Proofs.YtpfijldkkfiooaaGreatDoor
namespace Go.Proofs.YtpfijldkkfiooaaGreatDoor
open Go
set_option linter.unusedVariables false
def evN (L:Nat) (c:Cor):Nat:=(if c.h.cause=0 then 1+2*(L-c.h.pc.toNat/4) else 0)+c.B.length
structure CP (S L:Nat) (c:Cor):Prop where
 sz:c.size=S
 b:∀s∈c.B,StI S s
 l:c.B.length≤4
 f0:0≤c.first
 f:c.first+c.B.length+((if c.h.cause=0 then L-c.h.pc.toNat/4 else 0:Nat):Int)≤L
 h:c.h.Ok
 p:c.h.pc%4=0
 cl:c.code.length≤L
 ck:c.code.length≤1024
 st:∀w∈c.code,EO w=true
theorem Xz {code:List Int} {pc:Int} (hp:0≤pc) (h:¬(BC code pc).2=false):(BC code pc).1∈code∧pc.toNat/4<code.length:=by
 unfold BC at h⊢;have e:(pc.tdiv 4).toNat=pc.toNat/4:=by rw[Int.tdiv_eq_ediv_of_nonneg hp];omega
 split at h
 ·exact absurd rfl h
 ·rename_i h4;rw[if_neg h4];rw[e] at h⊢;cases hg:code[pc.toNat/4]? with
  | none=>rw[hg] at h;exact absurd rfl h
  | some w=>exact⟨List.mem_of_getElem? hg,(List.getElem?_eq_some_iff.1 hg).1⟩
theorem Yt {h:Hrt} {i:Ins} (ht:NE h i=true):5≤i.op∧i.op≤10:=by
 have e:∀(n:Int) (T:List (Int × Nat × (Int→Int→Bool))),(∀x∈T,5≤x.1∧x.1≤10)→fd n T≠none→5≤n∧n≤10:=by
  intro n T;induction T with
  | nil=>intro _ h;exact absurd rfl h
  | cons x r ih=>
   intro hx h;obtain⟨m,p⟩:=x;unfold fd at h;cases hr:fd n r with
   | some q=>exact ih (fun y hy=>hx y (.tail _ hy)) (by rw[hr];simp)
   | none=>
    rw[hr] at h;dsimp only at h;by_cases hm:n=m
    ·subst hm;exact hx _ (.head _)
    ·rw[show(n == m)=false by simpa using hm] at h;exact absurd rfl h
 refine e i.op L7 (by decide) fun hn=>?_;unfold NE at ht;rw[hn] at ht;cases ht
theorem XZ {h:Hrt} {w:Int} (hp:0≤h.pc∧h.pc<4096) (h4:h.pc%4=0) (hs:EO w=true) (hd:(AO w).2=true) (hn:(CS h (AO w).1).2=true):(CS h (AO w).1).1%4=0∧h.pc.toNat/4+1≤(CS h (AO w).1).1.toNat/4:=by
 have im:=(Hx w).im;unfold U32 at im;unfold EO at hs;rw[hd] at hs;simp only[Bool.not_true,Bool.false_or,Bool.not_eq_true',Bool.or_eq_false_iff,Bool.and_eq_false_iff,decide_eq_false_iff_not] at hs;obtain⟨hs1,hs2⟩:=hs;generalize(AO w).1=i at *;have go:∀v,1≤v→v<2147483648→(w32 (h.pc+v)).tmod 4=0→w32 (h.pc+v)%4=0∧h.pc.toNat/4+1≤(w32 (h.pc+v)).toNat/4:=fun v h1 h2 ht=>by rw[A6 (x:=h.pc+v) (by unfold U32;omega)] at ht⊢;rw[Int.tmod_eq_emod_of_nonneg (by omega)] at ht;omega
 unfold CS at hn⊢;by_cases hj:i.op=3∨NE h i=true
 ·rw[if_pos hj] at hn⊢
  have hr:3≤i.op∧i.op≤10:=by
   rcases hj with e|e
   ·omega
   ·have:=Yt e;omega
  simp only[decide_eq_true_eq] at hn;exact go i.imm (by omega) (by omega) hn
 ·rw[if_neg hj,if_neg hs1] at hn⊢
  exact go 4 (by decide) (by decide) (by
   rw[A6 (x:=h.pc+4) (by unfold U32;omega),Int.tmod_eq_emod_of_nonneg (by omega)]
   omega)
theorem Xm {h:Hrt} (ok:h.Ok) (hc:h.cause=0) (h4:h.pc%4=0) (hp:h.pc<4096) {w:Int} (hs:EO w=true) (S:Int) (x:Ans):(DP h w S x).1.pc%4=0∧((DP h w S x).1.cause≠0∨((DP h w S x).1.cause=0∧h.pc.toNat/4+1≤(DP h w S x).1.pc.toNat/4)):=by
 have hg:F6 h=true:=dT hc;have h0:=ok.pc.1;have e1:¬(AS h w S).2.2≠0:=by unfold AS;rw[if_neg (by rw[hg];decide)];split<;>exact fun h=>h rfl
 unfold DP;rw[if_neg e1];show(EX h w S _).1.pc%4=0∧((EX h w S _).1.cause≠0∨_)
 generalize Hk (AS h w S).1 x=y;unfold EX;rw[if_neg (by rw[hg];decide)];split
 ·rename_i c e;refine⟨h4,.inl ?_⟩;show c≠0;unfold DL at e
  repeat' split at e
  all_goals first|(cases e;done)|(cases e;decide)
 ·rename_i i a p e
  have hd:(AO w).2=true:=by
   unfold DL at e;split at e
   ·cases e
   ·rename_i h;simpa using h
  obtain⟨rfl,rfl,rfl⟩:=G4 e
  have hn:(CS h (AO w).1).2=true:=by
   unfold DL at e
   repeat' split at e
   all_goals first|(cases e;done)|(rename_i h;simpa using h)
  obtain⟨g1,g2⟩:=XZ ⟨h0,hp⟩ h4 hs hd hn;have k:∀h':Hrt,h'.cause=h.cause→(h'.setPc (CS h (AO w).1).1).pc%4=0∧((h'.setPc (CS h (AO w).1).1).cause≠0∨((h'.setPc (CS h (AO w).1).1).cause=0∧h.pc.toNat/4+1≤(h'.setPc (CS h (AO w).1).1).pc.toNat/4)):=fun h' e=>⟨g1,.inr ⟨e.trans hc,g2⟩⟩
  dsimp only;split
  ·split
   ·exact k _ rfl
   ·exact k _ rfl
  ·exact k _ rfl
def thB (d:CD) (l:Int) (w:Bool):Bool:=if w then Ap (stateOf d.L l) else decide (stateOf d.L l≠0)
def Dk (c:Cor) (a:Acc):Option (Int × Bool):=
 if a.kind=1 then(if(fwd c.B a.addr a.width).2≠2∧(fwd c.B a.addr a.width).2≠1 then some (a.addr/16,false) else none)
 else if c.B=[]∧a.kind=3 then some (a.addr/16,false)
 else if c.B=[]∧(a.kind=4∨a.kind=5) then some (a.addr/16,true) else none
def DD (c:Cor):Option (Int × Bool):=if c.h.cause=0∧(BC c.code c.h.pc).2=true then Dk c (AS c.h (BC c.code c.h.pc).1 c.size).1 else none
def CZ (c:Cor):Option (Int × Bool):=match c.B with|[]=>none|s::_=>some (s.addr/16,true)
inductive Gw (S L:Nat) (c:Cor) (d:CD) (n:Option (Int × Bool)) (stuck:Prop) (pick:Int) (c':Cor) (d':CD) (ms:List Msg):Prop
 | ev (h1:ms=[]) (h2:CP S L c') (h3:evN L c'+1≤evN L c) (h4:d'=d∨∃a w v,d'=(AQ d a w v).1)
 | no (h1:c'=c) (h2:d'=d) (h3:ms=[]) (h4:n=none) (h5:stuck)
 | ask (l:Int) (w:Bool) (hl:U32 l) (hN:l.toNat<S/16) (h1:c'=c) (h2:n=some (l,w)) (h3:thB d l w=false) (h4:d'=(askF d l hl w pick).1) (h5:ms=(askF d l hl w pick).2.1)
section
variable {S L:Nat} {c:Cor} {d:CD} {a:Acc} {w pick:Int}
theorem U8 (hc:CP S L c) (h0:c.h.cause=0) (hf:¬(BC c.code c.h.pc).2=false) {B:List Sto} (r:Option Int) (hB:∀s∈B,StI S s) (hl:B.length≤4) (hle:B.length≤c.B.length+1) (x:Ans):CP S L ⟨(DP c.h (BC c.code c.h.pc).1 c.size x).1,c.code,c.size,B,c.first,r⟩∧evN L ⟨(DP c.h (BC c.code c.h.pc).1 c.size x).1,c.code,c.size,B,c.first,r⟩+1≤evN L c:=by
 obtain⟨f1,f2⟩:=Xz hc.h.pc.1 hf;have hk:=hc.ck;have hcl:=hc.cl;have hok:=R5 (BC c.code c.h.pc).1 c.size x hc.h;obtain⟨g1,g2⟩:=Xm hc.h h0 hc.p (by have:=hc.h.pc.1;omega) (hc.st _ f1) c.size x;have hf:=hc.f;rw[if_pos h0] at hf;generalize(DP c.h (BC c.code c.h.pc).1 c.size x).1=h' at *;have e:evN L c=1+2*(L-c.h.pc.toNat/4)+c.B.length:=by unfold evN;rw[if_pos h0]
 refine⟨⟨hc.sz,hB,hl,hc.f0,?_,hok,g1,hc.cl,hc.ck,hc.st⟩,?_⟩
 ·show c.first+(B.length:Int)+((if h'.cause=0 then L-h'.pc.toNat/4 else 0:Nat):Int)≤L;rcases g2 with h|⟨h,h2⟩
  ·rw[if_neg h];omega
  ·rw[if_pos h];omega
 ·rw[e];show(if h'.cause=0 then 1+2*(L-h'.pc.toNat/4) else 0)+B.length+1≤_;rcases g2 with h|⟨h,h2⟩
  ·rw[if_neg h];omega
  ·rw[if_pos h];omega
theorem Yc {h:Hrt} {w size:Int} {i:Ins} {a:Acc} {p:Int} (e:DL h w size = .ok (i,a,p)):0<a.width→a.addr.tmod a.width=0:=by
 unfold DL at e;split at e
 ·cases e
 ·split at e
  ·cases e
  ·split at e
   ·split at e
    ·cases e
    ·rename_i hb;split at e
     ·cases e
     ·split at e
      ·cases e
      ·cases e;exact fun _=>by simpa using hb
   ·rename_i hw;split at e
    ·cases e
    ·cases e;exact fun h=>absurd h hw
theorem WQ {h:Hrt} {i:Ins} (h2:(Dm h i).kind=2):∃k:Nat,(Dm h i).value=Ip (h.reg k) (Dm h i).width:=by
 unfold Dm at h2⊢;split
 ·rename_i h1;rw[if_pos h1] at h2;exact absurd h2 (show¬(6:Int)=2 by decide)
 ·rename_i h1;rw[if_neg h1] at h2;split
  ·rename_i h3;rw[if_pos h3] at h2;exact absurd h2 (show¬(1:Int)=2 by decide)
  ·rename_i h3;rw[if_neg h3] at h2;split
   ·exact⟨_,rfl⟩
   ·rename_i h4;rw[if_neg h4] at h2
    repeat' split at h2
    ·exact absurd h2 (show¬(3:Int)=2 by decide)
    ·exact absurd h2 (show¬(4:Int)=2 by decide)
    ·exact absurd h2 (show¬(5:Int)=2 by decide)
    ·exact absurd h2 (show¬(0:Int)=2 by decide)
theorem XM {n k:Int} (hn:U32 n) (hk:k=1∨k=2∨k=4) (a:Int):okV ⟨a,k,Ip n k⟩=true:=by
 have e:=XL (n:=n) (w:=k) hn;unfold okV;rw[e];rcases hk with rfl|rfl|rfl<;>simp
 all_goals omega
theorem WT {h:Hrt} (ok:h.Ok) (w:Int) (S:Int) (hk:1≤(AS h w S).1.kind∧(AS h w S).1.kind≤5):(AS h w S).1.addr%(AS h w S).1.width=0∧((AS h w S).1.width=1∨(AS h w S).1.width=2∨(AS h w S).1.width=4)∧((AS h w S).1.kind=2→okV (Fz (AS h w S).1)=true):=by
 have ha:=K9 h w S ok;unfold AS at hk ha⊢;split at hk
 ·exact absurd hk.1 (show¬(1:Int)≤0 by decide)
 ·rename_i hg;rw[if_neg hg] at ha⊢;split at hk
  ·rename_i i a p e;rw[e] at ha;dsimp only at ha hk⊢;obtain⟨rfl,rfl,rfl⟩:=G4 e;have hw:=(Rt h (AO w).1).1 hk;have h0:=ha.ad.1;refine⟨?_,hw,fun h2=>?_⟩
   ·have:=Yc e (by rcases hw with h|h|h<;>omega);rwa[Int.tmod_eq_emod_of_nonneg h0] at this
   ·obtain⟨n,hv⟩:=WQ h2;unfold Fz;rw[hv];exact XM (ok.reg n) hw _
  ·exact absurd hk.1 (show¬(1:Int)≤0 by decide)
theorem Nr {a w:Int} (h:a%w=0) (hw:w=1∨w=2∨w=4):¬Cm a w=false:=by unfold Cm;rcases hw with rfl|rfl|rfl<;>simp[h]
theorem Yx {d:CD} {l:Int} (h:¬Ap (stateOf d.L l)=true):thB d l true=false:=by show Ap (stateOf d.L l)=false;simpa using h
theorem PZ {d:CD} {a w:Int} (hr:¬Cm a w=false) (h:¬(B8 d.L a w).2=0):thB d (a/16) false=false:=by
 unfold B8 at h;rw[if_neg hr] at h;cases hg:AI d.L (a/16) with
 | none=>
  show decide (stateOf d.L (a/16)≠0)=false;unfold stateOf Cj;rw[hg];rfl
 | some x=>
  rw[hg] at h;exact absurd rfl h
theorem Rv (hc:CP S L c) (h0:c.h.cause=0) (hf:¬(BC c.code c.h.pc).2=false) (hS:S%16=0):Gw S L c d (Dk c (AS c.h (BC c.code c.h.pc).1 c.size).1) (c.B≠[]) pick (DA c d (BC c.code c.h.pc).1 pick (AS c.h (BC c.code c.h.pc).1 c.size).1).1 (DA c d (BC c.code c.h.pc).1 pick (AS c.h (BC c.code c.h.pc).1 c.size).1).2.1 (DS (DA c d (BC c.code c.h.pc).1 pick (AS c.h (BC c.code c.h.pc).1 c.size).1).2.2):=by
 have hai:=WS c.h (BC c.code c.h.pc).1 S;have hal:=WT hc.h (BC c.code c.h.pc).1 c.size;have hao:=K9 c.h (BC c.code c.h.pc).1 c.size hc.h;rw[←hc.sz] at hai;have hdn:∀(B:List Sto) (r:Option Int),(∀s∈B,StI S s)→B.length≤4→B.length≤c.B.length+1→∀(x:Ans),CP S L ⟨(DP c.h (BC c.code c.h.pc).1 c.size x).1,c.code,c.size,B,c.first,r⟩∧evN L ⟨(DP c.h (BC c.code c.h.pc).1 c.size x).1,c.code,c.size,B,c.first,r⟩+1≤evN L c:=fun B r hB hl hle x=>U8 hc h0 hf r hB hl hle x;generalize(BC c.code c.h.pc).1=w at *;generalize(AS c.h w c.size).1=a at *
 have hsd:∀(r:Option Int) (d':CD) (x:Ans) (o:Int),(d'=d∨∃a w v,d'=(AQ d a w v).1)→Gw S L c d (Dk c a) (c.B≠[]) pick (Bm (c.setR r) d' w x o).1 (Bm (c.setR r) d' w x o).2.1 (DS (Bm (c.setR r) d' w x o).2.2):=fun r d' x o hd=>by obtain⟨g1,g2⟩:=hdn c.B r hc.b hc.l (Nat.le_succ _) x;exact .ev rfl g1 g2 hd
 have hno:Dk c a=none→c.B≠[]→Gw S L c d (Dk c a) (c.B≠[]) pick (Bi c d []).1 (Bi c d []).2.1 (DS (Bi c d []).2.2):=fun h1 h2 => .no rfl rfl rfl h1 h2
 have hask:1≤a.kind∧a.kind≤5→∀wr,Dk c a=some (a.addr/16,wr)→thB d (a.addr/16) wr=false→Gw S L c d (Dk c a) (c.B≠[]) pick (FX c d a wr pick).1 (FX c d a wr pick).2.1 (DS (FX c d a wr pick).2.2):=fun hk wr h1 h2=>by
  have hu:=hao.ad;obtain⟨k1,k2⟩:=hai.k hk;have hx:(a.addr/16).toNat<S/16:=by have:=hc.sz;have:=hu.1;have:(c.size)=S:=hc.sz;rcases k1 with h|h|h<;>omega
  refine .ask _ wr (Cf hu).2 hx rfl h1 h2 ?_ ?_
  ·show(Hn d a wr pick).1=_;rw[Gy hu]
  ·show(Hn d a wr pick).2.1=_;rw[Gy hu]
 unfold DA;split
 ·rename_i hk;obtain⟨al,aw,_⟩:=hal (by omega);unfold GR;split
  ·rename_i h2;refine hno (by unfold Dk;rw[if_pos hk,if_neg (fun h=>h.1 h2)]) fun hB=>?_;rw[hB] at h2;unfold fwd at h2;split at h2
   ·exact absurd h2 (show¬(0:Int)=2 by decide)
   ·exact absurd h2 (show¬(0:Int)=2 by decide)
  ·rename_i h2;split
   ·exact hsd c.res d _ _ (.inl rfl)
   ·rename_i h3;unfold Kl;split
    ·exact hsd c.res d _ _ (.inl rfl)
    ·rename_i h4;exact hask (by omega) false (by unfold Dk;rw[if_pos hk,if_pos ⟨h2,h3⟩]) (PZ (Nr al aw) h4)
 ·rename_i hk1;split
  ·rename_i hk;obtain⟨al,aw,av⟩:=hal (by omega);have hch:Gh (Fz a)=0:=by unfold Gh;rw[if_pos (av hk)];exact if_pos al
   unfold FA;split
   ·rename_i hp;have e:EJ c.B (Fz a)=c.B++[Fz a]:=if_pos hp
    have hl:c.B.length<4:=by
     unfold H8 at hp;rw[if_neg (fun h=>h hch)] at hp;split at hp
     ·exact absurd hp (by decide)
     ·omega
    obtain⟨g1,g2⟩:=hdn (c.B++[Fz a]) c.res (fun s hs=>by
     rcases List.mem_append.1 hs with hs|hs
     ·exact hc.b s hs
     ·rw[List.mem_singleton] at hs;subst hs;obtain⟨k1,k2⟩:=hai.k (by omega)
      exact⟨hai.s hk,k1,al,k2⟩) (by rw[List.length_append];show _+1≤4;omega) (by rw[List.length_append];exact Nat.le_refl _) Gx
    rw[←e] at g1 g2;exact .ev rfl g1 g2 (.inl rfl)
   ·rename_i hp;have e:EJ c.B (Fz a)=c.B:=if_neg hp;rw[e];refine hno (by unfold Dk;rw[if_neg hk1,if_neg (by omega),if_neg (by omega)]) fun hB=>hp ?_;unfold H8;rw[if_neg (fun h=>h hch),if_neg (by rw[hB];decide)]
  ·rename_i hk2;split
   ·rename_i hk;obtain⟨al,aw,_⟩:=hal (by omega);unfold lrR;split
    ·rename_i hB;split
     ·exact hsd _ d _ _ (.inl rfl)
     ·rename_i h4;exact hask (by omega) false (by unfold Dk;rw[if_neg hk1,if_pos ⟨hB,hk⟩]) (PZ (Nr al aw) h4)
    ·rename_i hB;exact hno (by unfold Dk;rw[if_neg hk1,if_neg (fun h=>hB h.1),if_neg (fun h=>hB h.1)]) hB
   ·rename_i hk3;split
    ·rename_i hk;unfold scR;split
     ·rename_i hB;exact hno (by unfold Dk;rw[if_neg hk1,if_neg (fun h=>hB h.1),if_neg (fun h=>hB h.1)]) hB
     ·rename_i hB;have hB:c.B=[]:=Decidable.not_not.1 hB;split
      ·split
       ·exact hsd _ _ _ _ (.inr ⟨_,_,_,rfl⟩)
       ·rename_i hw;exact hask (by omega) true (by unfold Dk;rw[if_neg hk1,if_neg (fun h=>hk3 h.2),if_pos ⟨hB,.inl hk⟩]) (Yx hw)
      ·exact hsd _ d _ _ (.inl rfl)
    ·rename_i hk4;split
     ·rename_i hk;unfold La;split
      ·rename_i hB;exact hno (by unfold Dk;rw[if_neg hk1,if_neg (fun h=>hB h.1),if_neg (fun h=>hB h.1)]) hB
      ·rename_i hB;have hB:c.B=[]:=Decidable.not_not.1 hB;split
       ·exact hsd c.res _ _ _ (.inr ⟨_,_,_,rfl⟩)
       ·rename_i hw;exact hask (by omega) true (by unfold Dk;rw[if_neg hk1,if_neg (fun h=>hk3 h.2),if_pos ⟨hB,.inr hk⟩]) (Yx hw)
     ·rename_i hk5;split
      ·rename_i hk;unfold Fi;split
       ·exact hsd c.res d _ _ (.inl rfl)
       ·rename_i hB;exact hno (by unfold Dk;rw[if_neg hk1,if_neg (fun h=>hB h.1),if_neg (fun h=>hB h.1)]) hB
      ·exact hsd c.res d _ _ (.inl rfl)
theorem PE (hc:CP S L c) (hS:S%16=0):Gw S L c d (DD c) (c.h.cause≠0∨c.B≠[]) pick (goF c d pick).1 (goF c d pick).2.1 (goF c d pick).2.2.2:=by
 unfold goF;split
 ·rename_i h;exact .no rfl rfl rfl (by unfold DD;rw[if_neg (fun e=>h e.1)]) (.inl h)
 ·rename_i h;have h0:c.h.cause=0:=Decidable.not_not.1 h;split
  ·have hf:=hc.f;have e:evN L c=1+2*(L-c.h.pc.toNat/4)+c.B.length:=by unfold evN;rw[if_pos h0]
   have e2:evN L (c.setH (c.h.setCause 4))=0+c.B.length:=by unfold evN;exact congrArg (· + c.B.length) (if_neg (show¬(4:Int)=0 by decide))
   refine .ev rfl ⟨hc.sz,hc.b,hc.l,hc.f0,?_,hc.h.setCause (by decide) (by decide),hc.p,hc.cl,hc.ck,hc.st⟩ (by rw[e,e2];omega) (.inl rfl);show c.first+(c.B.length:Int)+((if(4:Int)=0 then _ else 0:Nat):Int)≤L;rw[if_neg (by decide)];rw[if_pos h0] at hf;omega
  ·rename_i hf;have e:DD c=Dk c (AS c.h (BC c.code c.h.pc).1 c.size).1:=by unfold DD;rw[if_pos ⟨h0,by simpa using hf⟩]
   rw[e];rcases Rv (d:=d) (pick:=pick) hc h0 hf hS with⟨a,b,c,d⟩|⟨a,b,c,d,e⟩|⟨l,w,hl,hN,a,b,c,d,e⟩
   ·exact .ev a b c d
   ·exact .no a b c d (.inr e)
   ·exact .ask l w hl hN a b c d e
theorem Jf (hc:CP S L c) (hS:S%16=0):Gw S L c d (CZ c) (c.B=[]) pick (Av c d pick).1 (Av c d pick).2.1 (DS (Av c d pick).2.2):=by
 cases hB:c.B with
 | nil=>
  unfold Av;rw[hB];exact .no rfl rfl rfl (by unfold CZ;rw[hB]) rfl
 | cons s r=>
  have hs:StI S s:=hc.b s (by rw[hB];exact .head _);have hn:CZ c=some (s.addr/16,true):=by unfold CZ;rw[hB]
  by_cases hw:Ap (stateOf d.L (s.addr/16))=true
  ·have hp:Cu d.n d.ways d.L (Ep (Cj d.L (s.addr/16)) s.addr s.width s.value)=0:=Ch.put_there (num:=s.addr/16) hw _ rfl rfl;have e:(AQ d s.addr s.width s.value).2=0:=by unfold AQ;rw[if_neg (Ns hs),if_neg (by rw[hw];decide)];exact hp
   have e3:Av c d pick=((c.setB c.B.tail).setF (c.first+1),(AQ d s.addr s.width s.value).1,.ok ⟨2,c.h.id,Oa,s,c.first⟩):=by unfold Av;rw[show hdS c.B=s by rw[hB];rfl,if_neg (show¬hdB c.B=false by rw[hB];exact fun h=>by cases h),if_neg (fun h=>h e)]
   rw[e3,hB];have hf:=hc.f;have hl:=hc.l;have h0:=hc.f0;rw[hB,List.length_cons] at hf hl;refine .ev rfl ⟨hc.sz,fun x hx=>hc.b x (by rw[hB];exact .tail _ hx),?_,?_,?_,hc.h,hc.p,hc.cl,hc.ck,hc.st⟩ ?_ (.inr ⟨_,_,_,rfl⟩)
   ·show r.length≤4;omega
   ·show 0≤c.first+1;omega
   ·show c.first+1+(r.length:Int)+((if c.h.cause=0 then L-c.h.pc.toNat/4 else 0:Nat):Int)≤L;omega
   ·show(if c.h.cause=0 then 1+2*(L-c.h.pc.toNat/4) else 0)+r.length+1≤(if c.h.cause=0 then 1+2*(L-c.h.pc.toNat/4) else 0)+c.B.length;rw[hB,List.length_cons];omega
  ·have e:AQ d s.addr s.width s.value=(d,232):=by unfold AQ;rw[if_neg (Ns hs),if_pos (by simpa using hw)]
   have hu:U32 (⟨0,s.addr,0,0,0,false,false⟩:Acc).addr:=hs.u;have e3:Av c d pick=Bi c (askF d (s.addr/16) (Cf hs.u).2 true pick).1 (askF d (s.addr/16) (Cf hs.u).2 true pick).2.1:=by unfold Av;rw[show hdS c.B=s by rw[hB];rfl,if_neg (show¬hdB c.B=false by rw[hB];exact fun h=>by cases h),e,if_pos (show¬(232:Int)=0 by decide),Gy hu]
   rw[e3];have hx:(s.addr/16).toNat<S/16:=by have:=hs.le;have:=hs.u.1;rcases hs.w with h|h|h<;>omega
   exact .ask _ true (Cf hs.u).2 hx rfl hn (Yx hw) rfl rfl
end
structure MP (N S L:Nat) (last:Nat→B16) (m:MD):Prop where
 c:m.C.length=N
 d:m.D.length=N
 mo:m.most=1024
 si:Ch.SI m.D m.h m.q last 36
 rg:Rg m.h.bs
 bl:m.h.bs.length=S
 s16:S%16=0
 s8:S≤1024
 co:∀c∈m.C,CP S L c
section
variable {N S L:Nat} {last:Nat→B16} {m:MD} {i:Nat} {c:Cor} {d:CD} {pick:Int}
theorem MP.e (M:MP N S L last m):m.h.E.length=S/16:=by rw[M.si.hi.1,M.bl]
theorem MP.e64 (M:MP N S L last m):m.h.E.length≤64:=by rw[M.e];have:=M.s8;omega
theorem MP.put (M:MP N S L last m) {c':Cor} {d':CD} {ms:List Msg} {last':Nat→B16} {k:Nat} (hs:Ch.SI (m.D.set i d') m.h (m.q++ms) last' k) (hc:CP S L c'):Bf m.most m.q ms=m.q++ms∧MP N S L last' (m.put i c' d' (m.q++ms)):=
 ⟨by rw[M.mo];exact FR hs M.e64,by show(m.C.set i c').length=N;rw[List.length_set];exact M.c,by show(m.D.set i d').length=N;rw[List.length_set];exact M.d,M.mo,hs.norm,M.rg,M.bl,M.s16,M.s8,fun x hx=>by
  have hx:x∈m.C.set i c':=hx;rcases List.mem_or_eq_of_mem_set hx with h|rfl
  ·exact M.co x h
  ·exact hc⟩
theorem MP.putD (M:MP N S L last m) {d':CD} {ms:List Msg} {last':Nat→B16} {k:Nat} (hs:Ch.SI (m.D.set i d') m.h (m.q++ms) last' k):MP N S L last' (m.putD i d' (Bf m.most m.q ms)):=by rw[M.mo,FR hs M.e64];exact⟨M.c,by show(m.D.set i d').length=N;rw[List.length_set];exact M.d,M.mo,hs.norm,M.rg,M.bl,M.s16,M.s8,M.co⟩
theorem MP.same (M:MP N S L last m) (hi:m.D[i]? = some d):Ch.SI (m.D.set i d) m.h (m.q++[]) last 36:=by rw[List.append_nil,LX hi];exact M.si
theorem MP.turn (M:MP N S L last m) (hi:m.D[i]? = some d) (hc:CP S L c) {n:Option (Int × Bool)} {st:Prop} {c':Cor} {d':CD} {ms:List Msg} (t:Gw S L c d n st pick c' d' ms):(∃last',Ch.SI (m.D.set i d') m.h (m.q++ms) last' 36)∧CP S L c':=by
 rcases t with⟨rfl,h2,_,rfl|⟨a,w,v,rfl⟩⟩|⟨rfl,rfl,rfl,_,_⟩|⟨l,w,hl,hN,rfl,_,_,rfl,rfl⟩
 ·exact⟨⟨last,M.same hi⟩,h2⟩
 ·obtain⟨l,h⟩:=TU M.si hi a w v;exact⟨⟨l,by rw[List.append_nil];exact h⟩,h2⟩
 ·exact⟨⟨last,M.same hi⟩,hc⟩
 ·exact⟨⟨last,Yp M.si hi hl (by rw[M.e];exact hN) w pick⟩,hc⟩
theorem MP.go (M:MP N S L last m) (hci:m.C[i]? = some c) (hi:m.D[i]? = some d) (pick:Int):(goM m i pick).1=m.put i (goF c d pick).1 (goF c d pick).2.1 (m.q++(goF c d pick).2.2.2)∧∃last',MP N S L last' (goM m i pick).1:=by
 have hc:=M.co c (List.mem_of_getElem? hci);obtain⟨⟨l,h1⟩,h2⟩:=M.turn hi hc (PE (d:=d) (pick:=pick) hc M.s16);obtain⟨h3,h4⟩:=M.put h1 h2;have e:(goM m i pick).1=m.put i (goF c d pick).1 (goF c d pick).2.1 (m.q++(goF c d pick).2.2.2):=by unfold goM;rw[hci,hi];show m.put i (goF c d pick).1 (goF c d pick).2.1 (Bf m.most m.q (goF c d pick).2.2.2)=_;rw[h3]
 exact⟨e,l,by rw[e];exact h4⟩
theorem MP.drain (M:MP N S L last m) (hci:m.C[i]? = some c) (hi:m.D[i]? = some d) (pick:Int):(C4 m i pick).1=m.put i (Av c d pick).1 (Av c d pick).2.1 (m.q++DS (Av c d pick).2.2)∧∃last',MP N S L last' (C4 m i pick).1:=by
 have hc:=M.co c (List.mem_of_getElem? hci);obtain⟨⟨l,h1⟩,h2⟩:=M.turn hi hc (Jf (d:=d) (pick:=pick) hc M.s16);obtain⟨h3,h4⟩:=M.put h1 h2;have e:(C4 m i pick).1=m.put i (Av c d pick).1 (Av c d pick).2.1 (m.q++DS (Av c d pick).2.2):=by unfold C4;rw[hci,hi];show m.put i (Av c d pick).1 (Av c d pick).2.1 (Bf m.most m.q (DS (Av c d pick).2.2))=_;rw[h3]
 exact⟨e,l,by rw[e];exact h4⟩
theorem CP.res (h:CP S L c) (r:Option Int):CP S L (c.setR r):=⟨h.sz,h.b,h.l,h.f0,h.f,h.h,h.p,h.cl,h.ck,h.st⟩
theorem PK:∀(n:Nat) (C:List Cor) (D:List CD),(∀c∈C,CP S L c)→∀x∈C8 n C D,CP S L x
 | 0,_,_,h=>h
 | _+1,[],_,h=>h
 | _+1,_::_,[],h=>h
 | n+1,c::C,d::D,h=>fun x hx=>by
  have hx:x∈(if Fs c d then c.setR none else c)::C8 n C D:=hx;rcases List.mem_cons.1 hx with rfl|hx
  ·have hc:=h c (.head _);split
   ·exact hc.res none
   ·exact hc
  ·exact PK n C D (fun y hy=>h y (.tail _ hy)) x hx
theorem MP.lost (M:MP N S L last m):MP N S L last (AV m):=⟨by show(C8 _ _ _).length=N;rw[EE];exact M.c,M.d,M.mo,M.si,M.rg,M.bl,M.s16,M.s8,PK _ _ _ M.co⟩
theorem MP.dlv (M:MP N S L last m) (pick:Int) {x:Msg} (hx:m.q[Am pick m.q.length]? = some x) :
  (x.dst≠4∧(4≤x.kind∧x.kind≤10)∧∃d,m.D[x.dst.toNat]? = some d∧Ch.cat m.D x.dst=d∧Ch.SI (m.D.set x.dst.toNat (takeF d x).1) m.h (Ej m.q (Am pick m.q.length)++(takeF d x).2.1) last 36∧Bv m pick=⟨m.C,m.D.set x.dst.toNat (takeF d x).1,m.most,Ej m.q (Am pick m.q.length)++(takeF d x).2.1,m.h⟩) ∨
   (x.dst=4∧Ch.SI m.D (takeH m.h x).1 (Ej m.q (Am pick m.q.length)++(takeH m.h x).2.1) last 37∧Bv m pick=⟨m.C,m.D,m.most,Ej m.q (Am pick m.q.length)++(takeH m.h x).2.1,(takeH m.h x).1⟩):=by
 have hp:=Jd hx;have e:Bv m pick=TY m (Ej m.q (Am pick m.q.length)) x:=Je hx;rw[e];generalize Ej m.q (Am pick m.q.length)=rest at hp⊢;by_cases hd:x.dst≠4
 ·obtain⟨d,h1,h2,h3,h4⟩:=VS M.si hp hd;refine .inl ⟨hd,h3,d,h1,h2,h4,?_⟩;unfold TY;rw[if_pos hd,h1];show m.putD x.dst.toNat (takeF d x).1 (Bf m.most rest (takeF d x).2.1)=_;rw[M.mo,FR h4 M.e64,←M.mo];rfl
 ·have hd4:x.dst=4:=Decidable.not_not.1 hd;obtain⟨h1,_,h3⟩:=P7 M.si hp hd4;have hl:=(h3 M.rg).2;refine .inr ⟨hd4,h1,?_⟩;unfold TY;rw[if_neg hd,M.mo,FR h1 (by rw[h1.hi.1,hl,M.bl];have:=M.s8;omega),←M.mo];rfl
theorem MP.deliv (M:MP N S L last m) (pick:Int):MP N S L last (Bv m pick)∧(m.q≠[]→Iq (Bv m pick)+1≤Iq m):=by
 by_cases hq:m.q=[]
 ·rw[QB hq];exact⟨M,fun h=>absurd hq h⟩
 ·have hj:Am pick m.q.length<m.q.length:=HN _ _ (List.length_pos_iff.2 hq);have hx:m.q[Am pick m.q.length]? = some m.q[Am pick m.q.length]:=List.getElem?_eq_getElem hj;have hp:=Jd hx;rcases M.dlv pick hx with⟨_,hk,d,_,_,h4,e⟩|⟨hd,h1,e⟩
  ·rw[e];refine⟨⟨M.c,by show(m.D.set _ _).length=N;rw[List.length_set];exact M.d,M.mo,h4,M.rg,M.bl,M.s16,M.s8,M.co⟩,fun _=>?_⟩;have h5:=Ra (d:=d) hk;have h6:=Ch.sumF_perm Ch.cost hp;rw[Ch.sumF_cons] at h6;show Ch.sumF Ch.cost (_++(takeF d _).2.1)+Ch.sumF Ch.ecost m.h.E+1≤Ch.sumF Ch.cost m.q+Ch.sumF Ch.ecost m.h.E;rw[Ch.sumF_app];omega
  ·obtain⟨_,h2,h3⟩:=P7 M.si hp hd;obtain⟨g1,g2⟩:=h3 M.rg;rw[e];exact⟨⟨M.c,M.d,M.mo,h1.norm,g1,g2.trans M.bl,M.s16,M.s8,M.co⟩,fun _=>h2⟩
theorem MP.phi (M:MP N S L last m):Iq m≤172:=by have:=M.si.phiR;have:=M.e64;unfold Iq;omega
theorem MP.n4 (M:MP N S L last m):N≤4:=by have:=M.si.len;have:=M.d;omega
theorem MP.stp (M:MP N S L last m) (x:Cho):∃last',MP N S L last' (AV (Bg m x).1):=by
 have nn:∀i,(m.C[i]? = none∨m.D[i]? = none)→(goM m i x.pick).1=m∧(C4 m i x.pick).1=m:=fun i h=>by
  unfold goM C4;rcases h with h|h
  ·rw[h];exact⟨rfl,rfl⟩
  ·rw[h];cases m.C[i]? with
   | none=>exact⟨rfl,rfl⟩
   | some c=>exact⟨rfl,rfl⟩
 have hgd:∀i,(∃l,MP N S L l (goM m i x.pick).1)∧∃l,MP N S L l (C4 m i x.pick).1:=fun i=>by
  cases hc:m.C[i]? with
  | none=>
   obtain⟨e1,e2⟩:=nn i (.inl hc);rw[e1,e2];exact⟨⟨_,M⟩,⟨_,M⟩⟩
  | some c=>
   cases hd:m.D[i]? with
   | none=>
    obtain⟨e1,e2⟩:=nn i (.inr hd);rw[e1,e2];exact⟨⟨_,M⟩,⟨_,M⟩⟩
   | some d=>exact⟨(M.go hc hd x.pick).2,(M.drain hc hd x.pick).2⟩
 have:∃last',MP N S L last' (Bg m x).1:=by
  unfold Bg;split
  ·exact(hgd _).1
  ·split
   ·exact(hgd _).2
   ·split
    ·exact⟨last,(M.deliv x.pick).1⟩
    ·split
     ·show∃last',MP N S L last' (HA m _ x.pick);unfold HA;split
      ·rename_i d hd;exact⟨last,M.putD (TS M.si hd x.pick)⟩
      ·exact⟨last,M⟩
     ·show∃last',MP N S L last' (HS m _);unfold HS;split
      ·rename_i c hc
       exact⟨last,by show(m.C.set _ _).length=N;rw[List.length_set];exact M.c,M.d,M.mo,M.si,M.rg,M.bl,M.s16,M.s8,fun y hy=>by
        have hy:y∈m.C.set _ (c.setR none):=hy;rcases List.mem_or_eq_of_mem_set hy with h|rfl
        ·exact M.co y h
        ·exact(M.co c (List.mem_of_getElem? hc)).res none⟩
      ·exact⟨last,M⟩
 obtain⟨l,h⟩:=this;exact⟨l,h.lost⟩
theorem Wx (N S:Nat):RnP fun m=>∃last,MP N S 40 last m where
 n:=fun m ⟨last,M⟩ y hy=>by
  rcases(M.si.good y hy).cases with⟨h,_⟩|⟨h,_⟩
  ·exact .inl h
  ·rw[M.c,←M.d];exact .inr h
 f:=fun m ⟨last,M⟩=>⟨fun c hc=>by
  have:=(M.co c hc).f;have:=(M.co c hc).f0
  omega,fun n hn=>Nat.le_trans (M.si.qlen hn) (by decide)⟩
 s:=fun m x ⟨last,M⟩ _ _=>M.stp x
 n4:=fun m ⟨last,M⟩=>⟨by rw[M.c];exact M.n4,by have:=M.si.countR M.e64;omega⟩
end
open Classical in
noncomputable def crN (P:Int→Bool→Prop) (c:Cor):Nat:=if∃l w,DD c=some (l,w)∧P l w then 0 else if∃l w,CZ c=some (l,w)∧P l w then 1 else 2
theorem Ob (P:Int→Bool→Prop) (c:Cor):crN P c≤2:=by
 unfold crN;split
 ·decide
 ·split<;>decide
theorem Sb {P:Int→Bool→Prop} {c:Cor} {l:Int} {w:Bool} (h:DD c=some (l,w)) (hp:P l w):crN P c=0:=by unfold crN;rw[if_pos ⟨l,w,h,hp⟩]
theorem Po {P:Int→Bool→Prop} {c:Cor} {l:Int} {w:Bool} (h:CZ c=some (l,w)) (hp:P l w):crN P c≤1:=by
 unfold crN;split
 ·decide
 ·rw[if_pos ⟨l,w,h,hp⟩];decide
theorem Sc {P:Int→Bool→Prop} {c:Cor} (h:∀l w,DD c=some (l,w)→¬P l w):1≤crN P c:=by unfold crN;rw[if_neg fun⟨l,w,h1,h2⟩=>h l w h1 h2];split<;>decide
theorem Se {P:Int→Bool→Prop} {c:Cor} (h:∀l w,DD c=some (l,w)→¬P l w) (h2:∀l w,CZ c=some (l,w)→¬P l w):crN P c=2:=by unfold crN;rw[if_neg fun⟨l,w,h1,h3⟩=>h l w h1 h3,if_neg fun⟨l,w,h1,h3⟩=>h2 l w h1 h3]
theorem GD {P Q:Int→Bool→Prop} {c c':Cor} (hg:DD c'=DD c) (hd:CZ c'=CZ c) (hG:∀l w,DD c=some (l,w)→P l w→Q l w) (hD:∀l w,CZ c=some (l,w)→P l w→Q l w):crN Q c'≤crN P c:=by
 by_cases h1:∃l w,DD c=some (l,w)∧P l w
 ·obtain⟨l,w,h,hp⟩:=h1;rw[Sb (hg.trans h) (hG l w h hp)];exact Nat.zero_le _
 ·by_cases h2:∃l w,CZ c=some (l,w)∧P l w
  ·obtain⟨l,w,h,hp⟩:=h2;exact Nat.le_trans (Po (hd.trans h) (hD l w h hp)) (Sc fun l w h hp=>h1 ⟨l,w,h,hp⟩)
  ·rw[Se (c:=c) (P:=P) (fun l w h hp=>h1 ⟨l,w,h,hp⟩) (fun l w h hp=>h2 ⟨l,w,h,hp⟩)];exact Ob _ _
def Pa (d:CD) (l:Int) (w:Bool):Prop:=d.ask=some (l,w)
def Pe (d:CD) (q:List Msg) (i:Nat) (l:Int) (w:Bool):Prop:=d.ask=some (l,w)∨(thB d l w=true∧∃y∈q,y.kind=13∧y.src=(i:Int)∧y.line=l)
theorem Gz {d:CD} {l:Int} {w:Bool} (hl:U32 l) (h:thB d l w=false) (pick:Int):((askF d l hl w pick).1=d∧(askF d l hl w pick).2.1=[]∧(d.ask≠none∨d.giv≠none))∨(d.ask=none∧(askF d l hl w pick).1.ask=some (l,w)∧Ch.sumF Ch.cost (askF d l hl w pick).2.1≤11):=by
 have e9:Ch.cost (D8 d.id l w hl)=9:=by
  unfold Ch.cost;cases w
  ·exact if_pos (.inl rfl)
  ·exact if_pos (.inr rfl)
 unfold askF;split
 ·rename_i h1;refine .inl ⟨rfl,rfl,?_⟩;rcases h1 with h1|h1
  ·exact .inl fun e=>by rw[e] at h1;cases h1
  ·exact .inr fun e=>by rw[e] at h1;cases h1
 ·rename_i h1
  have ha:d.ask=none:=by
   cases ha:d.ask with
   | none=>rfl
   | some y=>exact absurd (.inl (by rw[ha];rfl)) h1
  split
  ·rename_i h2;unfold thB at h;obtain⟨h2,h3⟩:=h2;cases w with
   | false=>
    rw[if_neg (by decide)] at h;exact absurd h2 (of_decide_eq_false h)
   | true=>
    rw[if_pos rfl] at h;rcases h3 with h3|h3
    ·cases h3
    ·rw[h] at h3;cases h3
  ·split
   ·refine .inr ⟨ha,rfl,?_⟩;rw[Ch.sumF_cons,Ch.sumF_nil,e9];decide
   ·rename_i x hv;split
    ·rename_i ho;refine .inr ⟨ha,rfl,?_⟩;rw[Ch.sumF_app,Ch.sumF_cons,Ch.sumF_nil,e9]
     have:Ch.sumF Ch.cost (outF d x).2.1≤2:=by
      unfold outF;split
      ·exact Nat.zero_le _
      ·cases d.giv with
       | some y=>exact Nat.zero_le _
       | none=>exact Nat.le_refl _
     omega
    ·rename_i ho;refine .inl ⟨rfl,rfl,.inr fun hg=>ho ?_⟩;unfold outF;rw[hg];split<;>rfl
section
variable {S L i:Nat} {c c1 c2:Cor} {d d1 d2:CD} {ms1 ms2 q:List Msg} {r:Option Int}
theorem Ub (t1:Gw S L c d (DD c) (c.h.cause≠0∨c.B≠[]) 0 c1 d1 ms1) (t2:Gw S L (c1.setR r) d1 (CZ (c1.setR r)) ((c1.setR r).B=[]) 0 c2 d2 ms2) :
  25*evN L c2+12*crN (Pa d2) c2+Ch.sumF Ch.cost ms1+Ch.sumF Ch.cost ms2+1≤25*evN L c+12*crN (Pe d q i) c ∨
   (25*evN L c2+12*crN (Pa d2) c2≤25*evN L c+12*crN (Pe d q i) c∧c2=c.setR r∧d2=d∧ms1=[]∧ms2=[]∧(d.ask=none→d.giv=none→Cz c=false)):=by
 have z:Ch.sumF Ch.cost ([]:List Msg)=0:=rfl;have i2:=Ob (Pa d2) c2
 -- the same hart,the same cache
 have keep:c2=c.setR r→d2=d→(∀l w,DD c=some (l,w)→thB d l w=false)→(∀l w,CZ c=some (l,w)→thB d l w=false)→25*evN L c2+12*crN (Pa d2) c2≤25*evN L c+12*crN (Pe d q i) c:=fun e1 e2 hG hD=>by subst e1;subst e2;have:=GD (P:=Pe d2 q i) (Q:=Pa d2) (c:=c) (c':=c.setR r) rfl rfl (fun l w h hp=>hp.resolve_right fun hp=>by rw[hG l w h] at hp;cases hp.1) (fun l w h hp=>hp.resolve_right fun hp=>by rw[hD l w h] at hp;cases hp.1);have e:evN L (c.setR r)=evN L c:=rfl;omega
 -- nothing asked for,nothing there
 have two:d.ask=none→(∀l w,DD c=some (l,w)→thB d l w=false)→(∀l w,CZ c=some (l,w)→thB d l w=false)→crN (Pe d q i) c=2:=fun ha hG hD=>Se (fun l w h hp=>by
  rcases hp with hp|hp
  ·rw[ha] at hp;cases hp
  ·rw[hG l w h] at hp;cases hp.1) (fun l w h hp=>by
  rcases hp with hp|hp
  ·rw[ha] at hp;cases hp
  ·rw[hD l w h] at hp;cases hp.1)
 rcases t1 with⟨rfl,_,g3,_⟩|⟨rfl,rfl,rfl,g4,g5⟩|⟨l,w,hl,hN,rfl,g2,g3,g4,g5⟩
 · -- it got on
  have e1:evN L (c1.setR r)=evN L c1:=rfl;refine .inl ?_;rcases t2 with⟨rfl,_,k3,_⟩|⟨rfl,rfl,rfl,_,_⟩|⟨l,w,hl,hN,rfl,k2,k3,k4,k5⟩
  ·omega
  ·omega
  ·rcases Gz hl k3 0 with⟨a1,a2,_⟩|⟨_,a2,a3⟩
   ·rw[k5,a2];omega
   ·rw[←k5] at a3;rw[←k4] at a2;have:=Po (P:=Pa d2) k2 a2;omega
 · -- it neither got on nor needs a line
  have hG:∀l w,DD c1=some (l,w)→thB d1 l w=false:=fun l w h=>by rw[g4] at h;cases h
  have e1:evN L (c1.setR r)=evN L c1:=rfl;rcases t2 with⟨rfl,_,k3,_⟩|⟨rfl,rfl,rfl,k4,k5⟩|⟨l,w,hl,hN,rfl,k2,k3,k4,k5⟩
  ·refine .inl ?_;omega
  ·refine .inr ⟨keep rfl rfl hG fun l w h=>?_,rfl,rfl,rfl,rfl,fun _ _=>?_⟩
   ·have k4:CZ c1=none:=k4;rw[k4] at h;cases h
   ·have k5:c1.B=[]:=k5;unfold Cz;rw[k5,dF (g5.resolve_right fun h=>h k5)];rfl
  ·have hD:∀l w,CZ c1=some (l,w)→thB d1 l w=false:=fun l' w' h=>by have k2:CZ c1=some (l,w):=k2;rw[k2] at h;cases h;exact k3
   rcases Gz hl k3 0 with⟨a1,a2,a3⟩|⟨a1,a2,a3⟩
   ·rw[a1] at k4;rw[a2] at k5
    exact .inr ⟨keep rfl k4 hG hD,rfl,k4,rfl,k5,fun h1 h2=>by
     rcases a3 with h|h
     ·exact absurd h1 h
     ·exact absurd h2 h⟩
   ·refine .inl ?_;rw[←k5] at a3;rw[←k4] at a2;have b1:=Po (P:=Pa d2) k2 a2;have b2:=two a1 hG hD;omega
 · -- it needs a line that isn't there
  have hG:∀l w,DD c1=some (l,w)→thB d l w=false:=fun l' w' h=>by rw[g2] at h;cases h;exact g3
  have e1:evN L (c1.setR r)=evN L c1:=rfl;rcases Gz hl g3 0 with⟨a1,a2,a3⟩|⟨a1,a2,a3⟩
  ·rw[a1] at g4;rw[a2] at g5;subst g4;subst g5
   have hno:d1.ask=none→d1.giv=none→Cz c1=false:=fun h1 h2=>by
    rcases a3 with h|h
    ·exact absurd h1 h
    ·exact absurd h2 h
   rcases t2 with⟨rfl,_,k3,_⟩|⟨rfl,rfl,rfl,k4,k5⟩|⟨l',w',hl',hN',rfl,k2,k3,k4,k5⟩
   ·refine .inl ?_;omega
   ·refine .inr ⟨keep rfl rfl hG fun l w h=>?_,rfl,rfl,rfl,rfl,hno⟩;have k4:CZ c1=none:=k4;rw[k4] at h;cases h
   ·have hD:∀l w,CZ c1=some (l,w)→thB d1 l w=false:=fun l2 w2 h=>by have k2:CZ c1=some (l',w'):=k2;rw[k2] at h;cases h;exact k3
    rcases Gz hl' k3 0 with⟨b1,b2,b3⟩|⟨b1,b2,b3⟩
    ·rw[b1] at k4;rw[b2] at k5;exact .inr ⟨keep rfl k4 hG hD,rfl,k4,rfl,k5,hno⟩
    ·refine .inl ?_;rw[←k5] at b3;rw[←k4] at b2;have b4:=Po (P:=Pa d2) k2 b2;have b5:=two b1 hG hD;omega
  ·rw[←g5] at a3;rw[←g4] at a2
   have h1:1≤crN (Pe d q i) c1:=Sc fun l' w' h hp=>by
    rcases hp with hp|hp
    ·rw[a1] at hp;cases hp
    ·rw[hG l' w' h] at hp;cases hp.1
   refine .inl ?_;rcases t2 with⟨rfl,_,k3,_⟩|⟨rfl,rfl,rfl,k4,k5⟩|⟨l',w',hl',hN',rfl,k2,k3,k4,k5⟩
   ·omega
   ·have b:=Sb (P:=Pa d2) (c:=c1.setR r) g2 a2;omega
   ·rcases Gz hl' k3 0 with⟨b1,b2,b3⟩|⟨b1,b2,b3⟩
    ·rw[b1] at k4;rw[b2] at k5;subst k4;subst k5;have b:=Sb (P:=Pa d2) (c:=c1.setR r) g2 a2;omega
    ·rw[b1] at a2;cases a2
end
end Go.Proofs.YtpfijldkkfiooaaGreatDoor
namespace Go.Proofs.YtpfijldkkfiooaaGreatDoor.Ch
open Go Go.RowKit
theorem LI.one13 {M:Int} {d:Ent} {mem cur:B16} {v:Int→CV} {R:List ER} {G:Int→List Bool} {P:Int→List B16} {A:Int→List Unit} (h:LI M d mem cur v R G P A) {e:ER} (he:e∈R) (h13:e.1=13):R.length≤1:=by
 obtain⟨R',sv,hp,hph,ht⟩:=h.ph;have he':=hp.subset he;rw[hp.length_eq];cases hph with
 | drops C=>
  obtain⟨x,hx,rfl⟩:=List.mem_map.1 he';have h13:(if x.2 then(12:Int) else 6)=13:=h13;split at h13<;>exact absurd h13 (by decide)
 | idleO=>exact Nat.zero_le _
 | idleS=>exact Nat.zero_le _
 | fwd=>exact Nat.le_refl _
 | back=>exact Nat.le_refl _
 | dataO=>exact Nat.le_refl _
 | dataS=>exact Nat.le_refl _
 | doneO=>exact Nat.le_refl _
 | doneS=>exact Nat.le_refl _
end Go.Proofs.YtpfijldkkfiooaaGreatDoor.Ch
namespace Go.Proofs.YtpfijldkkfiooaaGreatDoor
open Go
set_option linter.unusedVariables false
theorem T3 (d:CD) (x:Msg):(takeF d x).1.ask=d.ask∨((x.kind=8∨x.kind=9∨x.kind=10)∧d.ask=some (x.line,decide (x.kind=10))∧Cu d.n d.ways d.L (BH x)=0∧(takeF d x).1.L=putL d.n d.ways d.L (BH x)∧(takeF d x).2.1=[mkM 13 d.id 4 x.line AE x.hn]):=by
 unfold takeF;split
 ·exact .inl rfl
 ·split
  ·rename_i h8;split
   ·rename_i hg;unfold CU at hg;simp only[Bool.and_eq_true,decide_eq_true_eq] at hg;refine .inr ⟨h8,?_,hg.2,rfl,rfl⟩;have h1:=hg.1;unfold dataOk at h1;cases ha:d.ask with
    | none=>rw[ha] at h1;cases h1
    | some y=>
     obtain⟨l,w⟩:=y;rw[ha] at h1;simp only[Bool.and_eq_true,decide_eq_true_eq,beq_iff_eq] at h1;rw[h1.1,h1.2]
   ·exact .inl rfl
  ·split
   ·split
    ·rename_i d' bs hb;exact .inl (Qu hb).1
    ·exact .inl rfl
   ·split
    ·split
     ·exact .inl rfl
     ·exact .inl rfl
    ·split
     ·exact .inl rfl
     ·exact .inl rfl
theorem Yv {d:CD} {x:Msg} (h7:x.kind=7):(takeF d x).1.L=d.L:=by
 unfold takeF;split
 ·rfl
 ·rw[if_neg (by omega),if_neg (by omega),if_neg (by omega)];split<;>rfl
theorem Lg {m:MD} {i:Nat} {d:CD} (h:m.D[i]? = some d):m.ca i=d:=by unfold MD.ca;rw[List.getD_eq_getElem?_getD,h];rfl
section
variable {N S L:Nat} {last:Nat→B16} {m:MD} {i:Nat}
theorem VH (M:MP N S L last m) {x:Msg} {old new:List Msg} (hq:m.q=x::(old++new)):∃out,(Bv m 0).q=old++(new++out)∧∀i l w,i<N→Pe (m.ca i) new i l w→Pe ((Bv m 0).ca i) (new++out) i l w:=by
 have hx0:Am (0:Int) m.q.length=0:=FN (i:=0) (by rw[hq];exact Nat.succ_pos _);have hx:m.q[Am (0:Int) m.q.length]? = some x:=by rw[hx0,hq];rfl
 have hdl:Ej m.q (Am (0:Int) m.q.length)=old++new:=by rw[hx0,hq];rfl
 have hp:=Jd hx;have hM:=M.dlv 0 hx;rw[hdl] at hM hp;rcases hM with⟨hd4,hk,d,hd,hcat,_,e⟩|⟨_,_,e⟩
 ·refine⟨(takeF d x).2.1,by rw[e];exact List.append_assoc ..,fun i l w hi h=>?_⟩;rw[e];by_cases hi2:i=x.dst.toNat
  ·subst hi2;have hid:=(M.si.atl hp hd4).1;have hok:=(M.si.ok x.dst hid.1 hid.2).2;rw[hcat] at hok;rw[Lg hd] at h;rw[Lg (m:=⟨m.C,m.D.set x.dst.toNat (takeF d x).1,m.most,_,m.h⟩) (List.getElem?_set_self (List.getElem?_eq_some_iff.1 hd).1)];rcases h with h|⟨h,y,hy,y1,y2,y3⟩
   ·rcases T3 d x with h2|⟨h8,h2,h3,h4,h5⟩
    ·exact .inl (h2.trans h)
    ·rw[h] at h2;cases h2;refine .inr ⟨?_,mkM 13 d.id 4 x.line AE x.hn,by rw[h5];exact List.mem_append_right _ (.head _),rfl,?_,rfl⟩
     ·have hs:stateOf (takeF d x).1.L x.line=if x.kind=8 then 1 else 2:=by rw[h4,←Mx,Ch.state_put h3];exact if_pos rfl
      unfold thB;rw[hs];by_cases h10:x.kind=10
      ·rw[if_pos (dT h10),if_neg (by omega)];rfl
      ·rw[if_neg (by simpa using h10)];split<;>rfl
     ·show d.id=((x.dst.toNat:Nat):Int)
      omega
   ·refine .inr ⟨?_,y,List.mem_append_left _ hy,y1,y2,y3⟩
    have hs:stateOf (takeF d x).1.L l=stateOf d.L l:=by
     by_cases hl:l=x.line
     ·have h7:x.kind=7:=by
       refine Decidable.by_contra fun h7=>?_;obtain⟨_,_,hln,hL⟩:=M.si.atl hp hd4;have hxn:=x.hn;have ey:∃b,Ch.er y=[(13,y.src,b)]:=by unfold Ch.er;rw[if_pos (by omega),if_neg (show¬y.kind≤10 by omega),y1];exact⟨_,rfl⟩
       obtain⟨b,ey⟩:=ey;have hyw:y∈Ch.wn x.line.toNat (old++new):=by unfold Ch.wn;exact List.mem_filter.2 ⟨List.mem_append_right _ hy,by simp;omega⟩
       have hmem:((13,y.src,b):Ch.ER)∈(Ch.wn x.line.toNat (old++new)).flatMap Ch.er:=List.mem_flatMap.2 ⟨y,hyw,by rw[ey];exact .head _⟩;have h1:=hL.one13 (List.mem_append_right _ hmem) rfl;have h2:=List.length_pos_of_mem hmem;have h3:(Ch.er x).length=1:=by unfold Ch.er;rw[if_pos (by omega)];rfl
       rw[List.length_append] at h1;omega
      rw[Yv h7]
     ·have hf:=(M.si.eff hp hd4).1 l hl;rw[hcat,Pm] at hf;exact congrArg Ch.CV.s hf
    unfold thB at h⊢;rw[hs];exact h
  ·have e2:MD.ca ⟨m.C,m.D.set x.dst.toNat (takeF d x).1,m.most,(old++new)++(takeF d x).2.1,m.h⟩ i=m.ca i:=by unfold MD.ca;rw[List.getD_eq_getElem?_getD,List.getD_eq_getElem?_getD];show((m.D.set x.dst.toNat (takeF d x).1)[i]?).getD _=_;rw[List.getElem?_set_ne (Ne.symm hi2)]
   rw[e2];exact h.imp id fun⟨h1,y,hy,h2⟩=>⟨h1,y,List.mem_append_left _ hy,h2⟩
 ·refine⟨(takeH m.h x).2.1,by rw[e];exact List.append_assoc ..,fun i l w hi h=>?_⟩;rw[e];exact h.imp id fun⟨h1,y,hy,h2⟩=>⟨h1,y,List.mem_append_left _ hy,h2⟩
end
end Go.Proofs.YtpfijldkkfiooaaGreatDoor
namespace Go.Proofs.YtpfijldkkfiooaaGreatDoor
open Go
set_option linter.unusedVariables false
theorem PL:∀(n:Nat) (C:List Cor) (D:List CD) (i:Nat) (c:Cor),C[i]? = some c→∃r,(C8 n C D)[i]? = some (c.setR r)
 | 0,C,D,i,c,h=>⟨c.res,h⟩
 | _+1,[],_,i,c,h=>⟨c.res,h⟩
 | _+1,_::_,[],i,c,h=>⟨c.res,h⟩
 | n+1,x::C,d::D,0,c,h=>by
  cases h;show∃r,some (if Fs x d then x.setR none else x)=some (x.setR r);split
  ·exact⟨none,rfl⟩
  ·exact⟨x.res,rfl⟩
 | n+1,x::C,d::D,i+1,c,h=>PL n C D i c h
def RsC (C C':List Cor):Prop:=∀(i:Nat) (c:Cor),C[i]? = some c→∃r,C'[i]? = some (c.setR r)
theorem RsC.refl (C:List Cor):RsC C C:=fun i c h=>⟨c.res,h⟩
theorem RsC.trans {A B C:List Cor} (h1:RsC A B) (h2:RsC B C):RsC A C:=fun i c h=>by obtain⟨r,hr⟩:=h1 i c h;obtain⟨r2,hr2⟩:=h2 i _ hr;exact⟨r2,hr2⟩
theorem RsC.lost (m:MD):RsC m.C (AV m).C:=fun i c h=>PL _ _ _ i c h
noncomputable def hvN (L:Nat) (Q:Nat→Int→Bool→Prop) (C:List Cor) (i:Nat):Nat:=match C[i]? with|some c=>25*evN L c+12*crN (Q i) c|none=>0
theorem Jt {L:Nat} {Q:Nat→Int→Bool→Prop} {C:List Cor} {i:Nat} {c:Cor} (h:C[i]? = some c):hvN L Q C i=25*evN L c+12*crN (Q i) c:=by unfold hvN;rw[h]
theorem aO {L:Nat} {Q Q':Nat→Int→Bool→Prop} {C C':List Cor} {i:Nat} (hl:i<C.length) (h:RsC C C') (hQ:∀l w,Q i l w→Q' i l w):hvN L Q' C' i≤hvN L Q C i:=by have hc:=List.getElem?_eq_getElem hl;obtain⟨r,hr⟩:=h i _ hc;rw[Jt hc,Jt hr];have:=GD (P:=Q i) (Q:=Q' i) (c:=C[i]) (c':=C[i].setR r) rfl rfl (fun l w _=>hQ l w) (fun l w _=>hQ l w);have e:evN L (C[i].setR r)=evN L C[i]:=rfl;omega
def stQ (j:Nat) (m:MD) (i:Nat):Int→Bool→Prop:=if i<j then Pa (m.ca i) else Pe (m.ca i) m.q i
noncomputable def psi (N L j:Nat) (m:MD):Nat:=Ch.sumF (hvN L (stQ j m) m.C) (List.range N)+Iq m
theorem Qc {f g:Nat→Nat} {j:Nat}:∀{N:Nat},j<N→(∀i,i<N→i≠j→f i≤g i)→Ch.sumF f (List.range N)+g j≤Ch.sumF g (List.range N)+f j
 | N+1,hj,h=>by
  rw[List.range_succ,Ch.sumF_app,Ch.sumF_app,Ch.sumF_cons,Ch.sumF_cons,Ch.sumF_nil,Ch.sumF_nil];by_cases e:j=N
  ·subst e;have:=Ch.sumF_mono (f:=f) (g:=g) (l:=List.range j) fun i hi=>by have hi:=List.mem_range.1 hi;exact h i (by omega) (by omega)
   omega
  ·have h1:=Qc (f:=f) (g:=g) (j:=j) (N:=N) (by omega) fun i hi hne=>h i (by omega) hne;have h2:=h N (by omega) (Ne.symm e);omega
def Hc (m:MD) (x:Cho):MD:=AV (Bg m x).1
theorem JT:∀(l:List Cho) (s:MD × List Did),(l.foldl J9 s).1=l.foldl Hc s.1
 | [],s=>rfl
 | x::l,s=>JT l (J9 s x)
section
variable {N S L:Nat} {last:Nat→B16} {m:MD} {j:Nat}
structure Nop (m m':MD):Prop where
 d:m'.D=m.D
 q:m'.q=m.q
 h:m'.h=m.h
 c:RsC m.C m'.C
theorem Yz (M:MP N S L last m) (hj:j<N):∃m',Hc (Hc m ⟨1,(j:Int),0⟩) ⟨2,(j:Int),0⟩=m'∧(∃last',MP N S L last' m')∧(∃new,m'.q=m.q++new) ∧
  (psi N L (j+1) m'+1≤psi N L j m∨(psi N L (j+1) m'≤psi N L j m∧Nop m m'∧(m.q=[]→∀c,m.C[j]? = some c→Cz c=false))):=by
 have hcl:j<m.C.length:=by rw[M.c];exact hj
 have hci:m.C[j]? = some m.C[j]:=List.getElem?_eq_getElem hcl;obtain⟨d,hdi⟩:∃d,m.D[j]? = some d:=⟨_,List.getElem?_eq_getElem (by rw[M.d];exact hj)⟩
 generalize m.C[j]=c at hci;have hc:=M.co c (List.mem_of_getElem? hci);obtain⟨e1,l1,M1⟩:=M.go hci hdi 0;have t1:=PE (d:=d) (pick:=0) hc M.s16;have s1:Hc m ⟨1,(j:Int),0⟩=AV (goM m j 0).1:=by show AV (goM m (Am (j:Int) m.C.length) 0).1=_;rw[FN hcl]
 rw[s1];rw[e1] at M1⊢;generalize(goF c d 0).1=c1 at *;generalize(goF c d 0).2.1=d1 at *;generalize(goF c d 0).2.2.2=ms1 at *;have M1':=M1.lost;have hc0:(m.put j c1 d1 (m.q++ms1)).C[j]? = some c1:=List.getElem?_set_self hcl;obtain⟨r,hc1⟩:=RsC.lost _ j c1 hc0;have hd1:(AV (m.put j c1 d1 (m.q++ms1))).D[j]? = some d1:=List.getElem?_set_self (List.getElem?_eq_some_iff.1 hdi).1;obtain⟨e2,l2,M2⟩:=M1'.drain hc1 hd1 0;have t2:=Jf (d:=d1) (pick:=0) (M1'.co _ (List.mem_of_getElem? hc1)) M.s16;have hcl1:j<(AV (m.put j c1 d1 (m.q++ms1))).C.length:=by rw[M1'.c];exact hj
 have s2:Hc (AV (m.put j c1 d1 (m.q++ms1))) ⟨2,(j:Int),0⟩=AV (C4 (AV (m.put j c1 d1 (m.q++ms1))) j 0).1:=by show AV (C4 _ (Am (j:Int) (AV (m.put j c1 d1 (m.q++ms1))).C.length) 0).1=_;rw[FN hcl1]
 rw[s2];rw[e2] at M2⊢;generalize(Av (c1.setR r) d1 0).1=c2 at *;generalize(Av (c1.setR r) d1 0).2.1=d2 at *;generalize DS (Av (c1.setR r) d1 0).2.2=ms2 at *
 have hR1:∀(i:Nat) x,i≠j→m.C[i]? = some x→∃r',(AV (m.put j c1 d1 (m.q++ms1))).C[i]? = some (x.setR r'):=fun i x hi hx=>RsC.lost _ i x (by
  show(m.C.set j c1)[i]? = some x;rw[List.getElem?_set_ne (Ne.symm hi)]
  exact hx)
 have hD1:(AV (m.put j c1 d1 (m.q++ms1))).D=m.D.set j d1:=rfl;generalize hm1:AV (m.put j c1 d1 (m.q++ms1))=m1 at *;have hq1:m1.q=m.q++ms1:=by rw[←hm1];rfl
 have hh1:m1.h=m.h:=by rw[←hm1];rfl
 have hc20:(m1.put j c2 d2 (m1.q++ms2)).C[j]? = some c2:=List.getElem?_set_self hcl1;obtain⟨r2,hc2⟩:=RsC.lost _ j c2 hc20
 have hR2:∀(i:Nat) x,i≠j→m.C[i]? = some x→∃r',(AV (m1.put j c2 d2 (m1.q++ms2))).C[i]? = some (x.setR r'):=fun i x hi hx=>by
  obtain⟨r',h1⟩:=hR1 i x hi hx
  obtain⟨r'',h2⟩:=RsC.lost (m1.put j c2 d2 (m1.q++ms2)) i _ (by
   show(m1.C.set j c2)[i]? = some (x.setR r');rw[List.getElem?_set_ne (Ne.symm hi)]
   exact h1)
  exact⟨r'',h2⟩
 have hD2:(AV (m1.put j c2 d2 (m1.q++ms2))).D=m.D.set j d2:=by show m1.D.set j d2=_;rw[hD1,List.set_set]
 have hq2:(AV (m1.put j c2 d2 (m1.q++ms2))).q=m.q++(ms1++ms2):=by show m1.q++ms2=_;rw[hq1,List.append_assoc]
 have hh2:(AV (m1.put j c2 d2 (m1.q++ms2))).h=m.h:=hh1;have M2':=M2.lost;refine⟨_,rfl,⟨_,M2'⟩,⟨_,hq2⟩,?_⟩;generalize AV (m1.put j c2 d2 (m1.q++ms2))=m2 at *;have hcaj:m2.ca j=d2:=Lg (by rw[hD2];exact List.getElem?_set_self (List.getElem?_eq_some_iff.1 hdi).1);have hca:∀i,i≠j→m2.ca i=m.ca i:=fun i hi=>by unfold MD.ca;rw[List.getD_eq_getElem?_getD,List.getD_eq_getElem?_getD,hD2,List.getElem?_set_ne (Ne.symm hi)]
 have hoth:∀i,i<N→i≠j→hvN L (stQ (j+1) m2) m2.C i≤hvN L (stQ j m) m.C i:=fun i hi hne=>by
  have hx:=List.getElem?_eq_getElem (show i<m.C.length by rw[M.c];exact hi);obtain⟨r',hr⟩:=hR2 i _ hne hx;rw[Jt hx,Jt hr]
  have hQ:∀l w,stQ j m i l w→stQ (j+1) m2 i l w:=fun l w h=>by
   unfold stQ at h⊢;rw[hca i hne,hq2];by_cases hlt:i<j
   ·rw[if_pos hlt] at h;rw[if_pos (by omega)];exact h
   ·rw[if_neg hlt] at h;rw[if_neg (by omega)];exact h.imp id fun⟨h1,y,hy,h2⟩=>⟨h1,y,List.mem_append_left _ hy,h2⟩
  have:=GD (P:=stQ j m i) (Q:=stQ (j+1) m2 i) (c:=m.C[i]'(by rw[M.c];exact hi)) (c':=(m.C[i]'(by rw[M.c];exact hi)).setR r') rfl rfl (fun l w _=>hQ l w) (fun l w _=>hQ l w);have e:evN L ((m.C[i]'(by rw[M.c];exact hi)).setR r')=evN L (m.C[i]'(by rw[M.c];exact hi)):=rfl;omega
 have hsum:=Qc hj hoth;rw[Jt hci,Jt hc2] at hsum;have eq1:stQ j m j=Pe d m.q j:=by unfold stQ;rw[if_neg (Nat.lt_irrefl j),Lg hdi]
 have eq2:stQ (j+1) m2 j=Pa d2:=by unfold stQ;rw[if_pos (Nat.lt_succ_self j),hcaj]
 rw[eq1,eq2] at hsum;have ec:crN (Pa d2) (c2.setR r2)≤crN (Pa d2) c2:=GD rfl rfl (fun _ _ _ h=>h) fun _ _ _ h=>h;have ee:evN L (c2.setR r2)=evN L c2:=rfl;have ephi:Iq m2=Iq m+Ch.sumF Ch.cost ms1+Ch.sumF Ch.cost ms2:=by unfold Iq;rw[hq2,hh2,Ch.sumF_app,Ch.sumF_app];omega
 unfold psi;rcases Ub (i:=j) (q:=m.q) t1 t2 with h|⟨h,rfl,rfl,rfl,rfl,hlv⟩
 ·exact .inl (by omega)
 ·have z:Ch.sumF Ch.cost ([]:List Msg)=0:=rfl;refine .inr ⟨by omega,⟨by rw[hD2];exact LX hdi,by rw[hq2];exact List.append_nil _,hh2,fun i x hx=>?_⟩,fun hq0 c' hc'=>?_⟩
  ·by_cases hi:i=j
   ·subst hi;rw[hci] at hx;cases hx;exact⟨r2,hc2⟩
   ·exact hR2 i x hi hx
  ·rw[hci] at hc';cases hc';have hs:=M.si;rw[hq0] at hs;obtain⟨ha,hg⟩:=hs.none hdi;exact hlv ha hg
theorem Qg (M:MP N S L last m):∀j,j≤N→∃m',(CX j).foldl Hc m=m'∧(∃last',MP N S L last' m')∧(∃new,m'.q=m.q++new) ∧
  (psi N L j m'+1≤psi N L 0 m∨(psi N L j m'≤psi N L 0 m∧Nop m m'∧(m.q=[]→∀i c,i<j→m.C[i]? = some c→Cz c=false)))
 | 0,_=>⟨m,rfl,⟨_,M⟩,⟨[],(List.append_nil _).symm⟩,.inr ⟨Nat.le_refl _,⟨rfl,rfl,rfl,RsC.refl _⟩,fun _ i c hi=>by omega⟩⟩
 | j+1,hj=>by
  obtain⟨m1,e1,⟨l1,M1⟩,⟨n1,q1⟩,h1⟩:=Qg M j (by omega);obtain⟨m2,e2,hM2,⟨n2,q2⟩,h2⟩:=Yz M1 (j:=j) (by omega);refine⟨m2,?_,hM2,⟨n1++n2,by rw[q2,q1,List.append_assoc]⟩,?_⟩
  ·rw[GL,List.foldl_append,e1,←e2];rfl
  ·rcases h1 with h1|⟨h1,k1,v1⟩
   ·rcases h2 with h2|⟨h2,_⟩
    ·exact .inl (by omega)
    ·exact .inl (by omega)
   ·rcases h2 with h2|⟨h2,k2,v2⟩
    ·exact .inl (by omega)
    ·refine .inr ⟨by omega,⟨k2.d.trans k1.d,k2.q.trans k1.q,k2.h.trans k1.h,k1.c.trans k2.c⟩,fun hq i c hi hc=>?_⟩;by_cases e:i=j
     ·subst e;obtain⟨r,hr⟩:=k1.c i c hc;have:Cz (c.setR r)=false:=v2 (k1.q.trans hq) _ hr;exact this
     ·exact v1 hq i c (by omega) hc
theorem Wp:∀(old:List Msg) {m:MD} {new:List Msg},MP N S L last m→m.q=old++new→∃m',(List.replicate old.length (⟨3,0,0⟩:Cho)).foldl Hc m=m'∧MP N S L last m'∧Iq m'+old.length≤Iq m∧RsC m.C m'.C∧∀i l w,i<N→Pe (m.ca i) new i l w→Pe (m'.ca i) m'.q i l w
 | [],m,new,M,hq=>⟨m,rfl,M,Nat.le_refl _,RsC.refl _,fun i l w _ h=>by rw[hq];exact h⟩
 | x::old,m,new,M,hq=>by
  obtain⟨out,q1,p1⟩:=VH M hq;obtain⟨M1,f1⟩:=M.deliv 0;have f1:=f1 (by rw[hq];simp);have hC:(Bv m 0).C=m.C:=by have hx0:Am (0:Int) m.q.length=0:=FN (i:=0) (by rw[hq];exact Nat.succ_pos _);rcases M.dlv 0 (x:=x) (by rw[hx0,hq];rfl) with⟨_,_,d,_,_,_,e⟩|⟨_,_,e⟩<;>rw[e]
  obtain⟨m',e,M',f,hR,hp⟩:=Wp old (m:=AV (Bv m 0)) M1.lost q1;refine⟨m',e,M',?_,?_,fun i l w hi h=>hp i l w hi (p1 i l w hi h)⟩
  ·have:Iq (AV (Bv m 0))=Iq (Bv m 0):=rfl;rw[List.length_cons];omega
  ·have:=RsC.lost (Bv m 0);rw[hC] at this;exact this.trans hR
theorem OL (M:MP N S L last m) (hr:Da m=false):(∃last',MP N S L last' (CC m).1)∧psi N L 0 (CC m).1+1≤psi N L 0 m:=by
 obtain⟨m1,e1,⟨l1,M1⟩,⟨new,q1⟩,h1⟩:=Qg M N (Nat.le_refl _);obtain⟨m2,e2,M2,f2,R2,p2⟩:=Wp m.q M1 q1;have e:(CC m).1=m2:=by unfold CC AP;rw[JT];unfold Dt;rw[List.foldl_append,M.c,e1,e2]
 rw[e];refine⟨⟨_,M2⟩,?_⟩;have hs:Ch.sumF (hvN L (stQ 0 m2) m2.C) (List.range N)≤Ch.sumF (hvN L (stQ N m1) m1.C) (List.range N):=Ch.sumF_mono fun i hi=>by have hi:=List.mem_range.1 hi;refine aO (by rw[M1.c];exact hi) R2 fun l w h=>?_;unfold stQ at h⊢;rw[if_pos hi] at h;rw[if_neg (Nat.not_lt_zero _)];exact p2 i l w hi (.inl h)
 have ep:psi N L 0 m2+m.q.length≤psi N L N m1:=by unfold psi;omega
 rcases h1 with h1|⟨h1,k,v⟩
 ·omega
 ·by_cases hq:m.q=[]
  ·exfalso;have hz:m.C.any Cz=false:=by rw[Bool.eq_false_iff];intro h;obtain⟨c,hc,hl⟩:=List.any_eq_true.1 h;obtain⟨i,hi⟩:=List.mem_iff_getElem?.1 hc;rw[v hq i c (by rw[←M.c];exact(List.getElem?_eq_some_iff.1 hi).1) hi] at hl;cases hl
   unfold Da at hr;rw[hz,hq] at hr;exact absurd hr (by decide)
  ·have:=List.length_pos_iff.2 hq;omega
theorem Ib {s:MD × List Did} (M:MP N S L last s.1):∀n,(∀j,j<n→Da (Cv j s).1=false)→(∃last',MP N S L last' (Cv n s).1)∧psi N L 0 (Cv n s).1+n≤psi N L 0 s.1
 | 0,_=>⟨⟨_,M⟩,Nat.le_refl _⟩
 | n+1,h=>by obtain⟨⟨l,M1⟩,h1⟩:=Ib M n fun j hj=>h j (by omega);obtain⟨h2,h3⟩:=OL M1 (h n (Nat.lt_succ_self n));exact⟨h2,by show psi N L 0 (CC (Cv n s).1).1+(n+1)≤_;omega⟩
theorem X7 (M:MP N S L last m):psi N L 0 m<256*(L+3):=by
 have h4:=M.n4;have hp:=M.phi
 have hs:Ch.sumF (hvN L (stQ 0 m) m.C) (List.range N)≤(25*(1+2*L+min 4 L)+24)*(List.range N).length:=Ch.sumF_le fun i hi=>by
  have hi:=List.mem_range.1 hi;have hx:=List.getElem?_eq_getElem (show i<m.C.length by rw[M.c];exact hi);rw[Jt hx];have hc:=M.co _ (List.mem_of_getElem? hx);generalize m.C[i]'(by rw[M.c];exact hi)=c at hc;have h1:=Ob (stQ 0 m i) c;have h2:=hc.l;have h3:=hc.f;have h5:=hc.f0;have h6:evN L c≤1+2*L+min 4 L:=by unfold evN;split<;>omega
  omega
 rw[List.length_range] at hs;have hs2:(25*(1+2*L+min 4 L)+24)*N≤(25*(1+2*L+min 4 L)+24)*4:=Nat.mul_le_mul_left _ h4;unfold psi;omega
end
theorem kW {n:Nat} (h:szF (n:Int)=false) (hn:n≤1024):n%16=0:=by
 have:∀k:_root_.Fin 1025,szF (k.1:Int)=false→k.1%16=0:=by decide+kernel
 exact this ⟨n,by omega⟩ h
theorem S4 {cs:List (List Int)} {bs:List Int} {sets ways:Int} {L:Nat} (hr:Rg bs) (hz:szF (bs.length:Int)=false) (hn:D1 cs sets ways=true) (hb:bs.length≤1024) (hc:∀code∈cs,code.length≤L∧∀w∈code,EO w=true):MP cs.length bs.length L (fun k=>Ah bs k) (EF cs bs sets ways):=by
 unfold D1 at hn;simp only[Bool.and_eq_true,decide_eq_true_eq,List.all_eq_true] at hn;obtain⟨⟨⟨h1,h4⟩,hR⟩,hk⟩:=hn;have hs1:=(FQ hR).1;have hrb:=TA (n:=sets.toNat) (ways:=ways) (by rw[show((sets.toNat:Nat):Int)=sets by omega];exact hR);have hsi:=Ch.SI.init (many:=cs.length) (n:=sets.toNat) (ways:=ways) ⟨h1,h4⟩ hrb bs;refine⟨by show((List.range cs.length).map _).length=_;rw[List.length_map,List.length_range],by show((List.range cs.length).map _).length=_;rw[List.length_map,List.length_range],rfl,hsi.mono (Nat.zero_le _),hr,rfl,kW hz hb,hb,fun c hcm=>?_⟩
 have hcm:c∈(List.range cs.length).map fun i=>XT i (bs.length:Int) (cs.getD i []):=hcm;obtain⟨i,hi,rfl⟩:=List.mem_map.1 hcm;have hi:=List.mem_range.1 hi;have hg:cs.getD i []∈cs:=by rw[List.getD_eq_getElem?_getD,List.getElem?_eq_getElem hi];exact List.getElem_mem hi
 obtain⟨c1,c2⟩:=hc _ hg;refine⟨rfl,fun s hs=>(by cases hs),Nat.zero_le _,Int.le_refl _,?_,?_,rfl,c1,hk _ hg,c2⟩
 ·show(0:Int)+((0:Nat):Int)+((L-(0:Int).toNat/4:Nat):Int)≤L;omega
 ·exact GN (by omega) (by omega)
theorem S5 {N S L:Nat}:∀(ls:List Cho) {m:MD} {last:Nat→B16},MP N S L last m→∃last',MP N S L last' (ls.foldl Hc m)
 | [],m,last,M=>⟨last,M⟩
 | x::ls,m,last,M=>by obtain⟨l,h⟩:=M.stp x;exact S5 ls h
theorem kF {x:Wld} {raw:List Int} (hr:Rg x.bs):PrW x raw fun m=>∃last,MP x.l.length x.bs.length 40 last m:=by
 have ini:x.ok=true→x.Fit raw.length→(∀(j:Nat) (h:j<x.l.length) (k:Nat) (hk:k<x.l[j].2.2.length),EO x.l[j].2.2[k]=true)→∀L:Nat,(∀(j:Nat) (h:j<x.l.length),x.l[j].2.2.length≤L)→∃last,MP x.l.length x.bs.length L last x.m:=fun hok hf hst L hL=>by
  unfold Wld.ok at hok;simp only[Bool.and_eq_true,Bool.not_eq_true'] at hok;have:=S4 (cs:=BY x.l) (L:=L) hr hok.1 hok.2 hf.b fun code hc=>by obtain⟨y,hy,rfl⟩:=List.mem_map.1 hc;obtain⟨j,hj,rfl⟩:=List.mem_iff_getElem.1 hy;refine⟨hL j hj,fun w hw=>?_⟩;obtain⟨k,hk,rfl⟩:=List.mem_iff_getElem.1 hw;exact hst j hj k hk
  rw[show(BY x.l).length=x.l.length from List.length_map _] at this;exact⟨_,this⟩
 refine⟨Wx _ _,fun hok hf hst=>ini hok hf hst 40 hf.c,fun hok hf hst long hL n hn hj=>?_⟩;obtain⟨last,M0⟩:=ini hok hf hst long hL;obtain⟨l1,M⟩:=S5 (B5 raw) M0;rw[←show(AP x.m (B5 raw)).1=(B5 raw).foldl Hc x.m from JT _ _] at M;have h1:=(Ib M n hj).2;have h2:=X7 M;omega
theorem kD:∃last,MP 1 16 40 last m2:=by
 have h:DC.all (fun w=>EO w)=true:=by decide+kernel
 exact⟨_,S4 (cs:=[DC]) (bs:=F4) (sets:=1) (ways:=1) (L:=40) (by unfold Rg;decide) (by decide) (by decide) (by decide) fun code hc=>by
  rw[List.mem_singleton] at hc;subst hc
  exact⟨by decide,fun w hw=>List.all_eq_true.1 h w hw⟩⟩
end Go.Proofs.YtpfijldkkfiooaaGreatDoor
