/-
  Part 4 of what the claim stands on: walks through the code, plain laws.
-/
import Derived.Test.YtpfijldkkfiooaaGreatDoorZPA3
set_option linter.unusedVariables false
set_option linter.unusedSimpArgs false
namespace Go.Proofs.YtpfijldkkfiooaaGreatDoor
open Go
set_option maxRecDepth 4000
def wE:Enc Tryz.prog Sto where
 T:=212
 n:=3
 cells:=Sto.cells
 len _:=rfl
 one x:=Gm rfl
 pos:=by decide
def wOk (n:Int):Bool:=decide (n=1) || decide (n=2) || decide (n=4)
def okV (s:Sto):Bool:=(decide (s.width=1) && decide (s.value<256)) || (decide (s.width=2) && decide (s.value<65536)) || decide (s.width=4)
def Gh (s:Sto):Int:=if okV s then(if s.addr%s.width=0 then 0 else 120) else 2
structure Sto.Ok (s:Sto):Prop where
 ad:U32 s.addr
 va:U32 s.value
structure Sto.In (s:Sto):Prop extends Sto.Ok s where
 ck:Gh s=0
theorem Sto.In.spec {s:Sto} (h:s.In):(s.width=1∧s.value<256∨s.width=2∧s.value<65536∨s.width=4)∧s.addr%s.width=0:=by
 have h:=h.ck;unfold Gh okV at h;split at h
 ·rename_i h1;split at h
  ·rename_i h2;simp at h1;exact⟨by omega,h2⟩
  ·omega
 ·omega
structure C0 where
 r0:Sto
 r1:Sto
 r2:Sto
 r3:Sto
 first:Nat
 n:Nat
deriving DecidableEq
def C0.cells (x:C0):List Value:=[.int .u32 x.r0.addr,.int .i64 x.r0.width,.int .u32 x.r0.value,.int .u32 x.r1.addr,.int .i64 x.r1.width,.int .u32 x.r1.value,.int .u32 x.r2.addr,.int .i64 x.r2.width,.int .u32 x.r2.value,
 .int .u32 x.r3.addr,.int .i64 x.r3.width,.int .u32 x.r3.value,.int .i64 ((x.first:Nat):Int),.int .i64 ((x.n:Nat):Int)]
def Ij:Enc Tryz.prog C0 where
 T:=245
 n:=14
 cells:=C0.cells
 len:=fun _=>rfl
 one:=fun _=>Gm rfl
 pos:=by decide
def eA:C0:=⟨BI,BI,BI,BI,0,0⟩
def C0.get (x:C0):Nat→Sto
 | 0=>x.r0
 | 1=>x.r1
 | 2=>x.r2
 | _=>x.r3
def C0.set (x:C0) (i:Nat) (s:Sto):C0:=
 match i with
 | 0=>{ x with r0:=s }
 | 1=>{ x with r1:=s }
 | 2=>{ x with r2:=s }
 | _=>{ x with r3:=s }
section
variable {x:C0} {i j:Nat} {s:Sto}
theorem Ve {p:Nat→Prop} (h0:p 0) (h1:p 1) (h2:p 2) (h3:p 3) {i:Nat} (hi:i<4):p i:=by
 match i,hi with
 | 0,_=>exact h0
 | 1,_=>exact h1
 | 2,_=>exact h2
 | 3,_=>exact h3
theorem PB (hi:i<4) (hj:j<4):(x.set i s).get j=if i=j then s else x.get j:=by
 revert hj
 refine Ve (p:=fun i=>j<4→(x.set i s).get j=if i=j then s else x.get j) ?_ ?_ ?_ ?_ hi<;>intro hj<;>
  refine Ve (p:=fun j=>C0.get (C0.set x _ s) j=if _=j then s else x.get j) ?_ ?_ ?_ ?_ hj<;>rfl
theorem KY:(x.set i s).first=x.first:=by unfold C0.set;split<;>rfl
theorem WF:(x.set i s).n=x.n:=by unfold C0.set;split<;>rfl
theorem Mr (hi:i<4):((Ij.cells x).drop (i*3)).take 3=DU.cells (x.get i):=by refine Ve (p:=fun i=>((Ij.cells x).drop (i*3)).take 3=DU.cells (x.get i)) ?_ ?_ ?_ ?_ hi<;>rfl
theorem Pd (hi:i<4):spl (Ij.cells x) (i*3) (DU.cells s)=Ij.cells (x.set i s):=by refine Ve (p:=fun i=>spl (Ij.cells x) (i*3) (DU.cells s)=Ij.cells (x.set i s)) ?_ ?_ ?_ ?_ hi<;>rfl
end
structure Er (x:C0) (l:List Sto):Prop where
 first:x.first<4
 n:x.n=l.length
 most:l.length≤4
 el:∀k,k<l.length→x.get ((x.first+k)%4)=l.getD k BI
 al:∀s∈l,s.In
theorem Er.nil:Er eA []:=⟨by decide,rfl,by decide,fun k hk=>absurd hk (by simp),by simp⟩
def C0.popd (x:C0):C0:=⟨(x.set (x.first%4) BI).r0,(x.set (x.first%4) BI).r1,(x.set (x.first%4) BI).r2,(x.set (x.first%4) BI).r3,(x.first+1)%4,x.n-1⟩
def C0.pushd (x:C0) (s:Sto):C0:=⟨(x.set ((x.first+x.n)%4) s).r0,(x.set ((x.first+x.n)%4) s).r1,(x.set ((x.first+x.n)%4) s).r2,(x.set ((x.first+x.n)%4) s).r3,x.first,x.n+1⟩
theorem SH {x y:C0} (h0:x.r0=y.r0) (h1:x.r1=y.r1) (h2:x.r2=y.r2) (h3:x.r3=y.r3) (j:Nat):x.get j=y.get j:=by unfold C0.get;split<;>assumption
section
variable {x:C0} {l:List Sto}
theorem Er.push (h:Er x l) (s:Sto) (hs:s.In) (hl:l.length<4):Er (x.pushd s) (l++[s]):=by
 have h1:=h.first;have h2:=h.n;refine⟨h1,by simp[C0.pushd,h2],by simp;omega,fun k hk=>?_,by simpa using fun s' hs'=>hs'.elim (h.al s') fun e=>e ▸ hs⟩;rw[SH (x:=x.pushd s) (y:=x.set ((x.first+x.n)%4) s) rfl rfl rfl rfl];show(x.set ((x.first+x.n)%4) s).get ((x.first+k)%4)=_;rw[PB (Nat.mod_lt _ (by decide)) (Nat.mod_lt _ (by decide))];simp only[List.length_append,List.length_cons,List.length_nil] at hk;by_cases hkl:k<l.length
 ·rw[if_neg (by omega),h.el k hkl];simp[List.getD,List.getElem?_append_left hkl]
 ·obtain rfl:k=l.length:=by omega
  rw[if_pos (by omega)];simp[List.getD]
theorem Er.pop (h:Er x l) (hl:0<l.length):Er x.popd l.tail:=by have h1:=h.first;have h2:=h.n;have h3:=h.most;refine⟨Nat.mod_lt _ (by decide),by simp[C0.popd,h2],by simp;omega,fun k hk=>?_,fun s hs=>h.al s (List.mem_of_mem_tail hs)⟩;simp at hk;rw[SH (x:=x.popd) (y:=x.set (x.first%4) BI) rfl rfl rfl rfl];show(x.set (x.first%4) BI).get (((x.first+1)%4+k)%4)=_;rw[PB (Nat.mod_lt _ (by decide)) (Nat.mod_lt _ (by decide)),if_neg (by omega),show((x.first+1)%4+k)%4=(x.first+(k+1))%4 by omega,h.el (k+1) (by omega)];simp[List.getD]
end
def DH (b:Nat) (l:List Sto):HP:=fun h=>∃X,Er X l∧Sep [.blk b 245 (Ij.cells X)] h
theorem I7 {b:Nat} {l:List Sto}:Op_ (DH b l) fun K=>∀X,Er X l→K [.blk b 245 (Ij.cells X)] := .mk fun G k h hh=>by obtain⟨X,h1,h2⟩:=hh;exact⟨_,k X h1,h2⟩
theorem DB {b:Nat} {l:List Sto} {X:C0} (hX:Er X l):∀h,Sep [.blk b 245 (Ij.cells X)] h→DH b l h:=fun _ hs=>⟨X,hX,hs⟩
theorem Kj {b:Nat} {l:List Sto} {X:C0} {cs:List Value} (hX:Er X l) (hc:cs=Ij.cells X):∀h,Sep [.blk b 245 cs] h→DH b l h:=hc ▸ DB hX
theorem yaj {P:Program} {N:Nat × List Deferred} {T:Tb} {e:World} {L:List Ck} {x y:Operand} {t ty:TypeId} {pos:String} {af:Array Edge} {g:Option (Nat × Bool)} {dd:Option Nat} {k:IntKind} {b q i len:Nat} {el:TypeId} (s:Nat) {q':Nat} (hu:P.underlying t=some (.array len el)) (h:evT T x=some (.pointer (some ⟨b,q,none⟩))) (h1:evT T y=some (.int k ((i:Nat):Int))) (hi:i<len) (hq:q+i*s=q') (hs:szT P el=some s:=by kernel_rfl):Yl P N T e L ⟨dd,.indexAddr t x y,ty,pos,af,g⟩ (.pointer (some ⟨b,q',none⟩)):=fun _ _ fr _=>
 Gt hu hs rfl (fr.evT h) (fr.evT h1) hi hq
theorem esc {P:Program} {N:Nat × List Deferred} {T:Tb} {e:World} {L L':List Ck} {x y:Operand} {t ty:TypeId} {pos:String} {af:Array Edge} {g:Option (Nat × Bool)} {dd:Option Nat} (i:Nat) {b q tb m:Nat} {cs cs' vs:List Value} (h:evT T x=some (.pointer (some ⟨b,q,none⟩))) (h1:evT T y=some (.agg vs.toArray)) (hL:nth L i=some (.blk b tb cs)) (hc:spl cs q vs=cs') (hL':put L i (.blk b tb cs')=some L') (hv:vs.length=m) (hq:q+m≤cs.length) (h2:vs.all (·.oneCell')=true) (hm:szT P t=some m:=by kernel_rfl) :
  Ef P N T e L ⟨dd,.store t x y,ty,pos,af,g⟩ fun K=>K none L':=by subst hc;exact esa i h h1 hL hL' hv hq h2 hm
theorem UX (n:Int):Sp Tryz.prog 292 [.int .i64 n] [] fun K=>K (.returned (.bool (wOk n))) []:=by
 refine Zen Tryz.func292 U U U fun e X Φ hS=>Zsr<|Zy U<|Zns<|Zb 3 U<|Zgs U U (fun h5=>?_) (fun h5=>?_);refine Zu' U U (dT h5) U<|Zu' U U (dT h5) U<|Zv (Ax U (dT h5) U)<|Zb 5 U<|Zn ?_;refine Zrt<|Zre (.t U .n) hS [] 0 ?_ U U U;rotate_left;refine Zg' U U (dF h5)<|Zm U<|Zg' U U (dF h5)<|Zv (yeq U U)<|Zv (Ao U (dF h5) U)<|Zm U<|Zgs U U (fun h9=>?_) (fun h9=>?_);refine Zu' U U (dT h9) U<|Zu' U U (dT h9) U<|Zv (Ax U (dT h9) U)<|Zy U<|Znr<|Zre (.t U .n) hS [] 0 ?_ U U U;rotate_left
 refine Zg' U U (dF h9)<|Zm U<|Zg' U U (dF h9)<|Zv (yeq U U)<|Zv (Ao U (dF h9) U)<|Zy U<|Znr<|Zre (.t U .n) hS [] 0 ?_ U U U;rotate_left
 ·simp[pk,wOk, *]
 ·simp[pk,wOk, *]
 ·simp[pk,wOk, *]
theorem Qy (s:Sto) (h:U32 s.addr:=by assumption):Sp Tryz.prog 294 [.agg (wE.arr s)] [] fun K=>K (.returned (.int .u64 s.addr)) []:=by unfold U32 at h;refine Zen Tryz.func294 U U U fun e X Φ hS=>Zsr<|Ze (A8 U) fun b1=>Zw<|Zy U<|Zns<|Za 3 [0,0,0] U U ?_;refine Zv (ycv Tryz.underlying40 Tryz.underlying330 U (Re U (by omega)))<|Zy U<|Znr<|Zre (.t U .n) hS [] 1 U U U U
theorem UY (s:Sto) (h:U32 s.addr:=by assumption) (hw:wOk s.width=true:=by assumption):Sp Tryz.prog 293 [.agg (wE.arr s)] [] fun K=>K (.returned (.int .u64 (s.addr+s.width))) []:=by unfold U32 at h;simp[wOk] at hw;refine Zen Tryz.func293 U U U fun e X Φ hS=>Zsr<|Ze (A8 U) fun b1=>Zw<|Zy U<|Zns<|Za 3 [0,0,0] U U ?_;refine Zv (ycv Tryz.underlying40 Tryz.underlying330 U (Re U (by omega)))<|Za 3 [0,1,0] U U<|Zv (ycv Tryz.underlying3 Tryz.underlying330 U (Re U (by omega)))<|Zv (Ac U U (Re U (by omega)))<|Zy U<|Znr ?_;refine Zre (.t U .n) hS [] 1 U U U U
theorem Xk {s:Sto} (h:wOk s.width=false):Gh s=2:=by unfold Gh okV;simp[wOk] at h;simp[h]
theorem L2 (m:Int) (j:Nat) (h:j≤32):m.fdiv (2 ^ min j IntKind.u32.bits)=m/2 ^ j:=by rw[Int.fdiv_eq_ediv_of_nonneg _ (Int.le_of_lt (Int.pow_pos (by decide))),Nat.min_eq_left (by simpa[IntKind.bits] using h)]
theorem U4 {s:Sto} (h0:0≤s.value) (h:wOk s.width=true) (h4:s.width<4) (hv:s.value.fdiv (2 ^ min (8*s.width).toNat IntKind.u32.bits)≠0):2=Gh s:=by
 have:okV s=false:=by
  simp[wOk] at h;unfold okV;rcases h with(h|h)|h
  ·rw[h] at hv⊢;rw[L2 _ _ (by decide)] at hv;simp at *;omega
  ·rw[h] at hv⊢;rw[L2 _ _ (by decide)] at hv;simp at *;omega
  ·omega
 unfold Gh;rw[this];rfl
theorem IA {s:Sto} (ha:0≤s.value) (h:wOk s.width=true) (hv:s.width<4→¬s.value.fdiv (2 ^ min (8*s.width).toNat IntKind.u32.bits)≠0):okV s=true:=by
 simp[wOk] at h;unfold okV;rcases h with(h|h)|h
 ·have hv:=hv (by omega);rw[h] at hv⊢;rw[L2 _ _ (by decide)] at hv;simp at *;omega
 ·have hv:=hv (by omega);rw[h] at hv⊢;rw[L2 _ _ (by decide)] at hv;simp at *;omega
 ·simp[h]
theorem Lh {s:Sto} (ha:0≤s.addr) (ho:okV s=true):(s.addr.tmod s.width≠0→120=Gh s)∧(¬s.addr.tmod s.width≠0→0=Gh s):=by
 unfold Gh;rw[if_pos ho,Int.tmod_eq_emod_of_nonneg ha];constructor
 ·intro h;rw[if_neg h]
 ·intro h;rw[if_pos (by simpa using h)]
theorem iB (s:Sto) (ok:s.Ok):Sp Tryz.prog 297 [.agg (wE.arr s)] [] fun K=>K (.returned (.int .i64 (Gh s))) []:=by
 have ha:=ok.ad;have hv:=ok.va;unfold U32 at ha hv;cases hk:wOk s.width with
 | true=>
  have hw:s.width=1∨s.width=2∨s.width=4:=by simp[wOk] at hk;omega
  refine Zen Tryz.func297 U U U fun e X Φ hS=>Zsr<|Ze (A8 U) fun b1=>Zw<|Zy U<|Znq<|Zbl<|Zsr<|Zv (yf 0 U) ?_;refine Za 2 [1,0] U U<|Zk (UX ..) [] U U<|Zq<|Zb 2 U<|Zg' U U (congrArg Bool.not hk)<|Zv (yf 0 U)<|Zg' U U (congrArg Bool.not hk)<|Zv (yf 1 U) ?_;refine Zg' U U (congrArg Bool.not hk)<|Zv (yd 0 U U U)<|Zg' U U (congrArg Bool.not hk)<|Zv (ylt U U)<|Zg' U U (congrArg Bool.not hk)<|Zm U<|Zgs U U (fun h14=>?_) (fun h14=>?_)
  refine Zg' U U (dT h14)<|Zv (yf 0 U)<|Zg' U U (dT h14)<|Zv (yf 2 U)<|Zg' U U (dT h14)<|Zv (yd 0 U U U)<|Zg' U U (dT h14)<|Zv (yf 0 U)<|Zg' U U (dT h14)<|Zv (yf 1 U) ?_;refine Zg' U U (dT h14)<|Zv (yd 0 U U U)<|Zg' U U (dT h14)<|Zv (AD U U (Ar U (by omega)))<|Zg' U U (dT h14)<|Zv (Mh U U (by omega) U)<|Zg' U U (dT h14)<|Zv (yne U U)<|Zg' U U (congrArg Bool.not hk)<|Zv (Ax U (dT h14) U) ?_;refine Zv (Ao U (congrArg Bool.not hk) U)<|Zy U<|Zn<|Zif U (fun h3=>?_) (fun h3=>?_);refine Zsr<|Zy U<|Znr<|Zr2<|Zr1<|Zre (.t U .n) hS [] 1 ?_ U U U;rotate_left
  refine Zsr<|Za 6 [0,0,0,0,1,0] U U<|Zv (ycv Tryz.underlying3 Tryz.underlying40 U (F3 U (by omega)))<|Zv (Cc U U (by omega) U)<|Zv (yne U U) ?_;refine Zy U<|Zn<|Zif U (fun h26=>?_) (fun h26=>?_);refine Zsr<|Zy U<|Znr<|Zr2<|Zr1<|Zre (.t U .n) hS [] 1 ?_ U U U;rotate_left;refine Zsk<|Zxn<|Zxs<|Zy U<|Znr<|Zre (.t U .n) hS [] 1 ?_ U U U;rotate_left;refine Zu' U U (dF h14) U<|Zu' U U (dF h14) U<|Zu' U U (dF h14) U<|Zu' U U (dF h14) U<|Zu' U U (dF h14) U<|Zu' U U (dF h14) U<|Zu' U U (dF h14) U<|Zu' U U (dF h14) U<|Zu' U U (dF h14) U<|Zg' U U (congrArg Bool.not hk) ?_
  refine Zv (Ao U (dF h14) U)<|Zv (Ao U (congrArg Bool.not hk) U)<|Zy U<|Zn<|Zcf U<|Zsr<|Za 3 [0,0,0] U U ?_;refine Za 3 [0,1,0] U U<|Zv (ycv Tryz.underlying3 Tryz.underlying40 U (F3 U (by omega)))<|Zv (Cc U U (by omega) U)<|Zb 2 U<|Zn<|Zif U (fun h26=>?_) (fun h26=>?_);refine Zsr<|Zy U<|Znr<|Zr2<|Zr1<|Zre (.t U .n) hS [] 1 ?_ U U U;rotate_left;refine Zsk<|Zxn<|Zxs<|Zy U<|Znr<|Zre (.t U .n) hS [] 1 ?_ U U U;rotate_left
  ·exact congrArg (Value.int .i64) (U4 hv.1 hk (by assumption) h3)
  ·exact congrArg (Value.int .i64) ((Lh ha.1 (IA hv.1 hk fun _=>h3)).1 h26)
  ·exact congrArg (Value.int .i64) ((Lh ha.1 (IA hv.1 hk fun _=>h3)).2 h26)
  ·exact congrArg (Value.int .i64) ((Lh ha.1 (IA hv.1 hk fun h=>absurd h (by assumption))).1 h26)
  ·exact congrArg (Value.int .i64) ((Lh ha.1 (IA hv.1 hk fun h=>absurd h (by assumption))).2 h26)
 | false=>
  rw[Xk hk];refine Zen Tryz.func297 U U U fun e X Φ hS=>Zsr<|Ze (A8 U) fun b1=>Zw<|Zy U<|Znq<|Zbl<|Zsr<|Zv (yf 0 U) ?_;refine Za 2 [1,0] U U<|Zk (UX ..) [] U U<|Zq<|Zb 2 U<|Zu' U U (congrArg Bool.not hk) U<|Zu' U U (congrArg Bool.not hk) U<|Zu' U U (congrArg Bool.not hk) U<|Zu' U U (congrArg Bool.not hk) U ?_;refine Zu' U U (congrArg Bool.not hk) U<|Zb 9 U ?_;refine Zu' U U (congrArg Bool.not hk) U<|Zv (Ax U (congrArg Bool.not hk) U)<|Zy U<|Zn<|Zct U<|Zsr<|Zy U<|Zn ?_;refine Zrt<|Zr2<|Zr1<|Zre (.t U .n) hS [] 1 U U U U
theorem UL (b:Nat) (l:List Sto):Sp Tryz.prog 148 [pt b] [.hp (DH b l)] fun K=>K (.returned (.int .i64 (l.length:Int))) [.hp (DH b l)]:=by refine Zen Tryz.func148 U U U fun e X Φ hS=>Zoc 0 I7 U<|fun X hX=>Zsr<|Zy U<|Aj<|Zm U<|Zv (D6 U U U)<|Znl ?_;refine Znx<|Zcf U<|Zks<|Za 5 [13,0] U U ?_;refine Znr ?_;rw[hX.n];refine Zfx [0] (DB hX) U<|Zre (.t U .n) hS [0] 0 U U U U
theorem UM (b k:Nat) (Y:C0) (h1:Y.first<4) (hk:k≤4):Sp Tryz.prog 149 [pt b,.int .i64 (k:Int)] [.blk b 245 (Ij.cells Y)] fun K=>K (.returned (.pointer (some ⟨b,(Y.first+k)%4*3,none⟩))) [.blk b 245 (Ij.cells Y)]:=by
 refine Zen Tryz.func149 U U U fun e X Φ hS=>Zsr<|Zy U<|Znq<|Zhd [] U U<|Zht 0 U (ym U)<|Zht 1 U (ym U)<|Zht 2 U (yn U) ?_;refine Zht 3 U (yf 12 U)<|Zht 4 U (yd 0 U U U)<|Zht 5 U (ym U)<|Zht 6 U (Ac U U (Ar U (by omega)))<|Zht 7 U (Cc U U (by decide) U)<|Zht 8 U (yn U)<|Zht 9 U (yf 0 U) ?_;refine Zht 10 U (yaj (i:=(Y.first+k)%4) 3 Tryz.underlying243 U U (Nat.mod_lt _ (by decide)) (Nat.zero_add _))<|Zht 11 U (ya U)<|ZHn<|Zxr<|Zre (.t U .n) hS [0] 0 U U U U
def hdS (l:List Sto):Sto:=l.headD BI
def hdB:List Sto→Bool
 | []=>false
 | _::_=>true
theorem W0 (b:Nat) (l:List Sto):Sp Tryz.prog 185 [pt b] [.hp (DH b l)] fun K=>K (.returned (.tuple #[.agg (DU.arr (hdS l)),.bool (hdB l)])) [.hp (DH b l)]:=by
 cases l with
 | nil=>
  refine Zen Tryz.func185 U U U fun e X Φ hS=>Zsr<|Ze (eal z51) fun b2=>Zw<|Zy U<|Aj<|Zm U<|Zk (UL ..) [1] U U ?_;refine Zq<|Zv (yeq U U)<|Zn<|Zct U<|Zsr<|Zv (yb l51 U)<|Ze (esw 1 (m:=3) U U U U U U U)<|Zw0<|Zy U<|Znl ?_;refine Zxr<|Zr1<|Zre (.wh 1 (m:=3) U U U (.t U .n)) hS [0] 1 U U U U
 | cons x r=>
  have hl:(x::r).length=r.length+1:=rfl;refine Zen Tryz.func185 U U U fun e X Φ hS=>Zsr<|Ze (eal z51) fun b2=>Zw<|Zy U<|Aj<|Zm U<|Zk (UL ..) [1] U U ?_;refine Zq<|Zv (yeq U U)<|Zn<|Zcf U<|Zks<|Zm U ?_;refine Zol 0 I7 U<|fun Y hY=>?_;have h1:=hY.first;refine Zk (UM b 0 Y h1 (by decide)) [0] U U<|Zq<|Za 2 [0] U U ?_;have e1:Y.get (Y.first%4)=x:=hY.el 0 (by omega);have e2:=Mr (x:=Y) (i:=Y.first%4) (Nat.mod_lt _ (by decide));rw[e1] at e2;refine Zv (yda 0 (m:=3) U U e2 U)<|Ze (esw 1 (m:=3) U U U U U (Enc.len ..) (Enc.allL ..))<|Zw0<|Zy U<|Znr ?_
  refine Zfx [0] (DB hY) U<|Zre (.wh 1 (m:=3) U U (Enc.len ..) (.t U .n)) hS [0] 1 U U U U
theorem fJ (b:Nat) (l:List Sto):Sp Tryz.prog 189 [pt b] [.hp (DH b l)] fun K=>K (.returned (.tuple #[.agg (DU.arr (hdS l)),.bool (hdB l)])) [.hp (DH b l.tail)]:=by
 cases l with
 | nil=>
  refine Zen Tryz.func189 U U U fun e X Φ hS=>Zsr<|Ze (eal z51) fun b2=>Zw<|Zy U<|Zns<|Zm U<|Zk (W0 ..) [1] U U<|Zq ?_;refine Zb 3 U<|Ze (eal z51) fun b4=>Zw<|Ze (esw 0 (m:=3) U U U U U (Enc.len ..) (Enc.allL ..))<|Zw0<|Zy U<|Aj ?_;refine Zm U<|Zn<|Zcf U<|Zks<|Zv (ydw 0 (m:=3) U U (Enc.len ..))<|Zm U<|Ze (esw 2 (m:=3) U U U U U (Enc.len ..) (Enc.allL ..))<|Zw0 ?_;refine Zy U<|Znr<|Zre (.wh 2 (m:=3) U U (Enc.len ..) (.t U .n)) hS [1] 2 U U U U
 | cons x r=>
  have hl:(x::r).length=r.length+1:=rfl;refine Zen Tryz.func189 U U U fun e X Φ hS=>Zsr<|Ze (eal z51) fun b2=>Zw<|Zy U<|Zns<|Zm U<|Zk (W0 ..) [1] U U<|Zq ?_;refine Zb 3 U<|Ze (eal z51) fun b4=>Zw<|Ze (esw 0 (m:=3) U U U U U (Enc.len ..) (Enc.allL ..))<|Zw0<|Zy U<|Aj ?_;refine Zm U<|Zn<|Zct U<|Zsr<|Zm U ?_;refine Zol 1 I7 U<|fun Y hY=>?_;have h1:=hY.first;refine Zk (UM b 0 Y h1 (by decide)) [0] U U<|Zq<|Zv (yb XG U)<|Zv (yn U) ?_;have e2:=Pd (x:=Y) (i:=Y.first%4) (s:=BI) (Nat.mod_lt _ (by decide));have hn:=hY.n;have h4:=hY.most
  have hf:(Y.set (Y.first%4) BI).first=Y.first:=KY;have hm:(Y.set (Y.first%4) BI).n=Y.n:=WF;refine Ze (esc (m:=3) 0 U U U e2 U U (by show _≤14;omega) U)<|Zw0<|Zns<|Za 5 [12,0] U U<|Zv (Ac U U (Ar U (by omega))) ?_;refine Zv (Cc U U (by decide) U)<|Za 2 [12] U U<|Ze (es 0 U U U U U)<|Zw0<|Zn<|Zrg<|Za 3 [13] U U ?_;refine Zv (yd 0 U U U)<|Zv (Dh U U (Ar U (by omega)))<|Za 2 [13] U U<|Ze (es 0 U U U U U)<|Zw0<|Zns<|Zv (ydw 1 (m:=3) U U (Enc.len ..))<|Zm U ?_;refine Ze (esw 2 (m:=3) U U U U U (Enc.len ..) (Enc.allL ..))<|Zw0<|Zy U<|Znr ?_
  have e3:((Y.set (Y.first%4) BI).n:Int)-1=((Y.n-1:Nat):Int):=by omega
  have e4:(((Y.set (Y.first%4) BI).first:Int)+1).tmod 4=(((Y.first+1)%4:Nat):Int):=by rw[hf];rfl
  rw[e3,e4];refine Zfx [0] (Kj (b:=b) (hY.pop (by omega)) U) U<|Zre (.wh 2 (m:=3) U U (Enc.len ..) (.t U .n)) hS [0] 2 U U U U
theorem Y7:Sp Tryz.prog 121 [] [] fun K=>∀b,K (.returned (pt b)) [.hp (DH b [])]:=by refine Zen Tryz.func121 U U U fun e X Φ hS=>Zsr<|Zy U<|Zns<|Zv (yb jO U)<|Ze (ebx U) fun b2=>Zw<|Zy U<|Znl ?_;refine Zxr ?_;refine Zfx [0] (DB (b:=b2) Er.nil) U ?_;refine Zre (.t U .n) (hS b2) [0] 0 U U U U
def H8 (l:List Sto) (s:Sto):Int:=if Gh s≠0 then Gh s else if 4≤l.length then 240 else 0
def EJ (l:List Sto) (s:Sto):List Sto:=if H8 l s=0 then l++[s] else l
theorem gF (b:Nat) (l:List Sto) (s:Sto) (ok:s.Ok):Sp Tryz.prog 249 [pt b,.agg (DU.arr s)] [.hp (DH b l)] fun K=>K (.returned (.int .i64 (H8 l s))) [.hp (DH b (EJ l s))]:=by
 refine Zen Tryz.func249 U U U fun e X Φ hS=>Zoc 0 I7 U<|fun Y hY=>Zsr<|Ze (A8 U) fun b3=>Zw<|Zy U<|Aj<|Zm U<|Zv (D6 U U U) ?_;refine Zn<|Zcf U<|Zks<|Zv (ydw 0 (m:=3) U U (Enc.len ..))<|Zv (yb XG U)<|Ze (eal Wj) fun b5=>Zw<|Ze (esw 0 (m:=3) U U U U U U U)<|Zw0 ?_;refine Aj<|Zv (ydw 0 (m:=3) U U U) ?_;refine Zk (iB s ok) [] U U<|Zq<|Zy U<|Zns<|Zb 2 U<|Zn ?_;refine Zif U (fun h14=>?_) (fun h14=>?_);refine Zsr<|Zb 2 U<|Znr<|Zr1 ?_;rotate_left;refine Zkn<|Zsq<|Zsr<|Za 5 [13,2] U U<|Znl ?_;refine Znx<|Zif U (fun h20=>?_) (fun h20=>?_);refine Zsr<|Zy U<|Znr<|Zr1 ?_;rotate_left
 refine Zkn<|Zsq ?_;rotate_left
 ·have e1:H8 l s=Gh s:=if_pos h14;have e2:EJ l s=l:=if_neg (by rw[e1];exact h14);rw[e1,e2] at hS;refine Zfx [2] (DB hY) U<|Zre (.t U .n) hS [0] 2 U U U U
 ·have hn:=hY.n;have e1:H8 l s=240:=(if_neg h14).trans (if_pos (by omega));have e2:EJ l s=l:=if_neg (by rw[e1];decide);rw[e1,e2] at hS;refine Zfx [2] (DB hY) U<|Zre (.t U .n) hS [0] 2 U U U U
 ·have hn:=hY.n;have h4:=hY.most;have hf:=hY.first;have e1:H8 l s=0:=(if_neg h14).trans (if_neg (by omega));have e2:EJ l s=l++[s]:=if_pos e1;rw[e1,e2] at hS;have hs:s.In:=⟨ok,by simpa using h14⟩
  have e3:=Pd (x:=Y) (i:=(Y.first+Y.n)%4) (s:=s) (Nat.mod_lt _ (by decide));have hg:(Y.set ((Y.first+Y.n)%4) s).n=Y.n:=WF;have hi:(Y.set ((Y.first+Y.n)%4) s).first=Y.first:=KY;refine Zhf 8 [2] U U<|Zht 0 U (ym U)<|Zht 1 U (ym U)<|Zht 2 U (yn U)<|Zht 3 U (yf 13 U)<|Zht 6 U (ydw 0 (m:=3) U U U)<|ZH1 4<|Zov U (yd 0 U U U) ?_;refine ZH1 5<|Zok (UM b Y.n Y hf (by omega)) [0] U U U<|Zqh 1 U<|Zht 7 U (yn U)<|ZHn<|Ztl U ?_;refine Zte (esc (m:=3) 0 U U U e3 U U (by show _≤14;omega) U)<|Ztw<|Ztn<|Zxs<|Za 4 [13,0] U U<|Zv (Ac U U (Ar U (by omega)))<|Zv (yn U) ?_
  refine Zv (yf 13 U)<|Ze (es 0 U U U U U)<|Zw0<|Zns<|Zy U<|Znr ?_;rw[hi,hg];refine Zfx [0] (Kj (b:=b) (hY.push s hs (by omega)) U) U<|Zre (.t U .n) hS [0] 2 U U U U
theorem Co {α:Type} {xs:List α} {j:Nat} {x:α} (h:xs[j]? = some x):xs.take j++[x]=xs.take (j+1):=by rw[List.take_add_one,h];rfl
theorem Ty {α:Type} {l:List α} {j:Nat} (d:α) (h:j<l.length):l.reverse[j]? = some (l.getD (l.length-1-j) d):=by rw[List.getElem?_reverse h,List.getD_eq_getElem?_getD,List.getElem?_eq_getElem (by omega)];rfl
theorem I6 {b:Nat} {l:List Sto}:Op_ (DH b l) fun K=>l.length≤4→(∀s∈l,s.In)→K [.hp (DH b l)] := .mk fun G k h hh=>by obtain⟨X,h1,h2⟩:=hh;exact⟨_,k h1.most h1.al,BN ⟨X,h1,h2⟩⟩
theorem bU (b b1:Nat) (l:List Sto):Sq Tryz.prog 147 [pt b1] [.hp (DH b l),.blk b1 136 [pt b]] (fun _=>[.hp (DH b l),.blk b1 136 [pt b]]) (fun s=>[.agg (wE.arr s)]) l.reverse:=by
 refine⟨fun y J Jx hYd=>?_⟩;refine Zen Tryz.func147 U U U fun e X Φ hS=>Zoc 1 I6 U<|fun h4 _=>Zsr<|Zv (yd 2 U U U)<|Zk (UL ..) [0] U U<|Zq<|Zv (Dh U U (Ar U (by omega)))<|Zy U<|Znb ?_;refine Zlq (ι:={ i:Nat // i≤l.length }) (fun i=>[(3,.int .i64 ((l.length:Int)-1-(i.1:Int))),(0,.func (.yield y) #[] #[]),(1,pt b1)]) (fun i=>[.hp (J (l.reverse.take i.1)),.hp (DH b l),.blk b1 136 [pt b]]) (fun i=>l.length-i.1) ⟨0,by omega⟩ ?_ [1,0,0] U fun i=>?_;rotate_left;refine Zsq<|Zsr<|Zb 2 U<|Zn<|Zif U (fun h8=>?_) (fun h8=>?_);refine Zkn<|Zsq<|Zbl<|Zsr<|Za 3 [2] U U ?_;rotate_left
 refine Zex<|Zxt<|Zxt<|Zxx<|Zee ?_;rotate_left
 ·refine⟨?_,rfl,rfl,trivial⟩;show some _=some _;simp
 ·have hlt:i.1<l.length:=by omega
  have e1:(l.length:Int)-1-(i.1:Int)=((l.length-1-i.1:Nat):Int):=by omega
  refine Zol 1 I7 U<|fun Y hY=>?_;have hx:l.reverse.take i.1++[l.getD (l.length-1-i.1) BI] <+: l.reverse:=by rw[Co (Ty BI hlt)];exact List.take_prefix _ _
  have e2:=Mr (x:=Y) (i:=(Y.first+(l.length-1-i.1))%4) (Nat.mod_lt _ (by decide));rw[hY.el _ (by omega)] at e2;rw[e1];refine Zk (UM b (l.length-1-i.1) Y hY.first (by omega)) [0] U U<|Zq<|Zv (yn U) ?_;refine Zv (yda 0 (m:=3) U U e2 U) ?_;refine Zyd (hYd _ _ hx) 1 U U U ?_ ?_;refine Zv (BM U)<|Zn<|Zcf U<|Zsk<|Zxn<|Znx<|Zrg<|Zm U<|Zv (Dh U U (Ar U (by omega))) ?_;refine Zy U<|Znl ?_;rotate_left;refine Zv (BM U)<|Zn<|Zct U<|Zrt<|Zr2<|Zr1<|Zr1<|Zr2 ?_;rotate_left
  ·refine Zfx [1] (DB hY) U ?_;rw[Co (Ty BI hlt),show((l.length-1-i.1:Nat):Int)-1=(l.length:Int)-1-((i.1+1:Nat):Int) by omega];refine Zlr ⟨i.1+1,by omega⟩ (by show l.length-(i.1+1)<l.length-i.1;omega) ⟨U,U,U,trivial⟩ [1,0,0] 0 U U
  ·refine Zfx [1] (DB hY) U ?_;refine Zre .n (hS.2 _ hx) [1,0,0] 0 U U U U
 ·have hi:=i.2;rw[List.take_of_length_le (show l.reverse.length≤i.1 by simp;omega)];refine Zre .n hS.1 [0,0,0] 0 U U U U
theorem c98 (b:Nat):Sp Tryz.prog 98 [pt b] [] fun K=>∀b1,K (.returned (.func (.func 147) #[] #[pt b1])) [.blk b1 136 [pt b]]:=by refine Zen Tryz.func98 U U U fun e X Φ hS=>Zsr<|Ze (ebx U) fun b1=>Zw<|Zy U<|Zns<|Zv (yfn U U)<|Zy U<|Znl ?_;refine Zxr ?_;refine Zre (.t U .n) (hS b1) [0] 0 U U U U
def Km {α:Type} [DecidableEq α] (E:Enc Tryz.prog α) (bo ts:Nat) (pre:List α):HP:=fun h=>∃A cap,Sep [.blk bo ts [.slice A pre.length cap],.hp (own E A cap pre)] h
theorem FH {α:Type} [DecidableEq α] {E:Enc Tryz.prog α} {bo ts:Nat} {pre:List α}:Op_ (Km E bo ts pre) fun K=>∀A cap,K [.blk bo ts [.slice A pre.length cap],.hp (own E A cap pre)] := .mk fun G k h hh=>by obtain⟨A,cap,hs⟩:=hh;exact⟨_,k A cap,hs⟩
theorem Ht {α:Type} [DecidableEq α] {E:Enc Tryz.prog α} {bo ts cap n:Nat} {A:Option Addr} {pre:List α} (hn:n=pre.length):∀h,Sep [.blk bo ts [.slice A n cap],.hp (own E A cap pre)] h→Km E bo ts pre h:=fun h hs=>⟨A,cap,hn ▸ hs⟩
theorem Jb {α:Type} [DecidableEq α] {E:Enc Tryz.prog α} {bo ts:Nat}:∀h,Sep [.blk bo ts [.slice none 0 0]] h→Km E bo ts [] h:=fun h hs=>⟨none,0,hs.mapTl fun _ hs=>Ag hs⟩
theorem Ws:BX DU 73 24:=⟨Tryz.underlying73,by
 obtain⟨i0,hi,hz0,hz1,hz2⟩:=info_parts (show(Tryz.prog.info? 51).map (fun i=>(i.zero,i.size,i.bytes))=some (some (.agg (DU.arr BI)),3,24) by kernel_rfl)
 exact⟨i0,_,hi,hz0,hz1,hz2,by rw[show(Value.agg (DU.arr BI)).cells=DU.arr BI from rfl,DU.size]⟩⟩
def HW (l ll:List Sto) (i:Nat):Prop:=∀k,k<l.length→ll.getD k BI=if k<i∨l.length-i≤k then l.getD (l.length-1-k) BI else l.getD k BI
theorem HW.zero {l:List Sto}:HW l l 0:=fun k hk=>by rw[if_neg (by omega)]
theorem MX {l:List Sto} {i k:Nat} {x:Sto} (hi:i<l.length):(l.set i x).getD k BI=if i=k then x else l.getD k BI:=by
 simp only[List.getD,List.getElem?_set];split
 ·rename_i h;subst h;simp[hi]
 ·rfl
theorem Tz {l ll:List Sto} {i:Nat} (h1:i<l.length) (h2:i<l.length-1-i) (hl:ll.length=l.length) (h:HW l ll i):HW l ((ll.set i (ll.getD (l.length-1-i) BI)).set (l.length-1-i) (ll.getD i BI)) (i+1):=by
 intro k hk;rw[MX (by rw[List.length_set];omega),MX (by omega)];have hi:=h i h1;have hj:=h (l.length-1-i) (by omega);rw[if_neg (by omega)] at hi;rw[if_neg (by omega)] at hj;by_cases e1:l.length-1-i=k
 ·rw[if_pos e1,if_pos (by omega),hi,←e1,show l.length-1-(l.length-1-i)=i by omega]
 ·rw[if_neg e1];by_cases e2:i=k
  ·rw[if_pos e2,if_pos (by omega),hj,e2]
  ·rw[if_neg e2,h k hk];by_cases e3:k<i∨l.length-i≤k
   ·rw[if_pos e3,if_pos (by omega)]
   ·rw[if_neg e3,if_neg (by omega)]
theorem HW.done {l ll:List Sto} {i:Nat} (h:HW l ll i) (hl:ll.length=l.length) (hi:l.length≤2*i+1):ll=l.reverse:=by
 refine List.ext_getElem (by simpa using hl) fun k h1 h2=>?_;have hk:k<l.length:=by omega
 have:=h k hk;rw[List.getElem_reverse];have e1:ll.getD k BI=ll[k]:=by simp[List.getD,h1]
 have e2:l.getD (l.length-1-k) BI=l[l.length-1-k]:=by simp[List.getD,show l.length-1-k<l.length by omega]
 rw[←e1,this,←e2];by_cases e3:k<i∨l.length-i≤k
 ·rw[if_pos e3]
 ·rw[if_neg e3,show l.length-1-k=k by omega]
theorem c99 (A:Option Addr) (cap:Nat) (l:List Sto) (hl:l.length≤1048576):Sp Tryz.prog 99 [.slice A l.length cap] [.hp (own DU A cap l)] fun K=>K (.returned (.tuple #[])) [.hp (own DU A cap l.reverse)]:=by
 refine Zen Tryz.func99 U U U fun e X Φ hS=>Zsr<|Zm U<|Zv (Aw ⟨_,Tryz.underlying73⟩ U)<|Zv (Dh U U (Ar U (by omega)))<|Zb 2 U<|Znb ?_;refine Zlq (ι:={ p:Nat × List Sto // p.1≤l.length∧p.2.length=l.length∧HW l p.2 p.1 }) (fun p=>[(2,.int .i64 (p.1.1:Int)),(3,.int .i64 ((l.length:Int)-1-(p.1.1:Int))),(0,.slice A l.length cap)]) (fun p=>[.hp (own DU A cap p.1.2)]) (fun p=>l.length-p.1.1) ⟨(0,l),by simp,rfl,HW.zero⟩ ?_ [0] U fun p=>?_;rotate_left;refine Zsq<|Zsr<|Zb 3 U<|Zn<|Zif U (fun h9=>?_) (fun h9=>?_);refine Zkn<|Zsq<|Zbl ?_;rotate_left;refine Zex<|Zxt<|Zxt<|Zxx<|Zee ?_
 rotate_left
 ·refine⟨rfl,?_,rfl,trivial⟩;show some _=some _;simp
 ·obtain⟨⟨i,ll⟩,h1,h2,h3⟩:=p;have hi:(i:Int)<(l.length:Int)-1-i:=h9;have h2':ll.length=l.length:=h2;have e1:(l.length:Int)-1-(i:Int)=((l.length-1-i:Nat):Int):=by omega
  have hgi:=gE (l:=ll) (k:=i) (by omega);have hgj:=gE (l:=ll) (k:=l.length-1-i) (by omega);have ei:ll.getD i BI=ll[i]:=by rw[List.getD_eq_getElem?_getD,hgi];rfl
  have ej:ll.getD (l.length-1-i) BI=ll[l.length-1-i]:=by rw[List.getD_eq_getElem?_getD,hgj];rfl
  have h4:=Tz (i:=i) (by omega) (by omega) h2' h3;rw[ei,ej] at h4;rw[e1];refine Zoc 0 (JM (by show 0<ll.length;omega)) U<|fun g o hA=>?_;subst hA;refine Zhd [0] U U<|Zht 0 U (ym U)<|Zht 1 U (ym U)<|Zht 2 U (ym U)<|Zht 3 U (ym U)<|Zht 4 U (ym U)<|Zht 5 U (ym U)<|Zht 8 U (ym U)<|Zht 9 U (ym U) ?_;refine Zht 6 U (yeb (s:=3) (j:=l.length-1-i) (o+(l.length-1-i)*3) Tryz.underlying73 U U (by omega) U) ?_;refine Zht 10 U (yeb (s:=3) (j:=i) (o+i*3) Tryz.underlying73 U U (by omega) U) ?_;refine ZH2 7 11 (Zov U (yel 0 own.rd U hgj U U U) ?_) (Zov U (yel 0 own.rd U hgi U U U) ?_)
  rotate_left;rotate_left
  ·refine ZH1 11<|Zov U (yel 0 own.rd U hgi U U U) ?_;refine Zht 12 U (yeb (s:=3) (j:=i) (o+i*3) Tryz.underlying73 U U (by omega) U) ?_;refine ZH1 13<|Zoe U (ese 0 i U U U (by show i<ll.length;omega) U U (by kernel_rfl))<|Ay 1 U ?_;refine Zht 14 U (yeb (s:=3) (j:=l.length-1-i) (o+(l.length-1-i)*3) Tryz.underlying73 U U (by omega) U) ?_;refine ZH1 15<|Zoe U (ese 0 (l.length-1-i) U U U (by show _<(ll.set i _).length;rw[List.length_set];omega) U U (by kernel_rfl))<|Ay 1 U<|ZHn<|Zxn<|Znx<|Zrg<|Zm U<|Zv (Ac U U (Ar U (by omega)))<|Zm U<|Zv (Dh U U (Ar U (by omega)))<|Zy U ?_
   refine Zy U<|Znl ?_;rw[show((l.length-1-i:Nat):Int)-1=(l.length:Int)-1-((i+1:Nat):Int) by omega];refine Zlr ⟨(i+1,(ll.set i ll[l.length-1-i]).set (l.length-1-i) ll[i]),by show i+1≤l.length;omega,by simp[h2'],h4⟩ (by show l.length-(i+1)<l.length-i;omega) ⟨U,U,U,trivial⟩ [0] 0 U U
  ·refine ZH1 7<|Zov U (yel 0 own.rd U hgj U U U) ?_;refine Zht 12 U (yeb (s:=3) (j:=i) (o+i*3) Tryz.underlying73 U U (by omega) U) ?_;refine ZH1 13<|Zoe U (ese 0 i U U U (by show i<ll.length;omega) U U (by kernel_rfl))<|Ay 1 U ?_;refine Zht 14 U (yeb (s:=3) (j:=l.length-1-i) (o+(l.length-1-i)*3) Tryz.underlying73 U U (by omega) U) ?_;refine ZH1 15<|Zoe U (ese 0 (l.length-1-i) U U U (by show _<(ll.set i _).length;rw[List.length_set];omega) U U (by kernel_rfl))<|Ay 1 U<|ZHn<|Zxn<|Znx<|Zrg<|Zm U<|Zv (Ac U U (Ar U (by omega)))<|Zm U<|Zv (Dh U U (Ar U (by omega)))<|Zy U ?_
   refine Zy U<|Znl ?_;rw[show((l.length-1-i:Nat):Int)-1=(l.length:Int)-1-((i+1:Nat):Int) by omega];refine Zlr ⟨(i+1,(ll.set i ll[l.length-1-i]).set (l.length-1-i) ll[i]),by show i+1≤l.length;omega,by simp[h2'],h4⟩ (by show l.length-(i+1)<l.length-i;omega) ⟨U,U,U,trivial⟩ [0] 0 U U
 ·have h5:=p.2.2.2.done p.2.2.1 (by omega);rw[h5];refine Zre .n hS [0] 0 U U U U
theorem c54 (b:Nat) (l:List Sto):Sp Tryz.prog 54 [pt b] [.hp (DH b l)] fun K=>∀A cap,K (.returned (.slice A l.length cap)) [.hp (own DU A cap l),.hp (DH b l)]:=by
 refine J2 Tryz.func54 U U U fun e X Φ hS=>Zoc 0 I6 U<|fun h4 _=>Zsr<|Zy U<|Zns<|Ze (eal z73) fun b3=>Zw<|Znq ?_;refine Zsr<|Zm U<|Zk (c98 ..) [] U U<|fun b1=>Zq<|Znb ?_;refine Zfc [1] (Jb (E:=DU) (bo:=b3) (ts:=73)) U ?_;refine Zrf (bU b b1 l) (fun pre=>[.hp (Km DU b3 73 pre)]) (fun _=>True) (fun _=>[]) (fun _=>False) (fun _ _=>[]) (fun _ _=>False) [2,1,0] U U trivial (fun e' y pre x F hx _=>?_) (fun D _=>?_) (fun _ _ _ h=>h.elim) (fun _ _ _ _ h=>h.elim) (fun _=>U) (by decide)
 refine Zrg<|Ze (eal Wj) fun b4=>Zw<|Ze (esw 0 (m:=3) U U U U U (Enc.len ..) (Enc.allL ..))<|Zw0<|Znl<|Zak 2 U fun F'=>Zbl<|Zrg ?_;rotate_left;refine Zxn<|Zxs ?_;rotate_left
 ·refine Zol 1 FH U<|fun A cap=>Zv (yd 0 U U U)<|Zv (yf 0 U)<|Zv (ydw 2 (m:=3) U U (Enc.len ..)) ?_;have hlen:=E4 hx;simp only[List.length_reverse] at hlen;have hm:pre.length+[x].length≤maxLen:=CY (by simp;omega);refine Ze (eb1 (E:=DU) (p:=x) Ws (by decide) U)<|fun B=>Zw ?_;refine Ze (Dp 2 0 Ws U U U own.rd U U U (fun _ _=>U) (by simp;omega) hm)<|fun A' cap'=>Zw<|Ze (es 1 U U U U U)<|Zw0<|Znl<|Zxn ?_;refine Zfx [1,1] (Ht (bo:=b3) (ts:=73) (pre:=pre++[x]) U) U<|Zrn trivial [0] 2 U U
 ·refine Zol 1 FH U<|fun A cap=>Zv (yd 0 U U U) ?_;refine Zk (c99 A cap l.reverse (by simp;omega)) [1] U U<|Zq<|Zns<|Za 2 [1] U U<|Znr ?_;refine Zmk 2 U ?_;rw[List.length_reverse,List.reverse_reverse];refine Zre (.t U .n) (hS A cap) [0,1] 2 U U U U
def XQ (w n:Int):Int:=w32 (BitVec.ofInt 32 n &&& BitVec.ofInt 32 (w32 (w32 (1*2 ^ min (8*w).toNat 32)-1))).toNat
def Ek (a w:Int) (s:Sto):Option (Int × Int):=
 if a+w≤s.addr∨s.addr+s.width≤a then none
 else if a<s.addr∨s.addr+s.width<a+w then some (0,2)
 else some (if w<4 then XQ w (s.value.fdiv (2 ^ min (8*(a-s.addr)).toNat 32)) else s.value.fdiv (2 ^ min (8*(a-s.addr)).toNat 32),1)
def Im (a w:Int):List Sto→Int × Int
 | []=>(0,0)
 | s::r=>match Ek a w s with
  | none=>Im a w r
  | some p=>p
def fwd (l:List Sto) (a w:Int):Int × Int:=if wOk w=true∧a%w=0 then Im a w l.reverse else(0,0)
def Mk (a w:Int) (pre:List Sto) (r:Int × Int):Prop:=∃p x,pre=p++[x]∧(∀y∈p,Ek a w y=none)∧Ek a w x=some r
section
variable {a w:Int} {pre xs:List Sto} {x:Sto} {s:Sto} {r:Int × Int}
theorem HB:∀(p q:List Sto),(∀y∈p,Ek a w y=none)→Im a w (p++q)=Im a w q
 | [],_,_=>rfl
 | y::p,q,h=>by show(match Ek a w y with|none=>Im a w (p++q)|some p=>p)=_;rw[h y (by simp)];exact HB p q fun z hz=>h z (by simp[hz])
theorem Mk.eq (h:Mk a w pre r) (hp:pre <+: xs):Im a w xs=r:=by obtain⟨p,x,rfl,h1,h2⟩:=h;obtain⟨q,rfl⟩:=hp;rw[List.append_assoc,HB p _ h1];show(match Ek a w x with|none=>_|some p=>p)=r;rw[h2]
theorem aI (h:∀y∈xs,Ek a w y=none):Im a w xs=(0,0):=by have:=HB (a:=a) (w:=w) xs [] h;rw[List.append_nil] at this;exact this
theorem MU (h:∀y∈pre,Ek a w y=none) (hx:Ek a w x=none):∀y∈pre++[x],Ek a w y=none:=by
 intro y hy;rw[List.mem_append,List.mem_singleton] at hy;rcases hy with hy|rfl
 ·exact h y hy
 ·exact hx
theorem Kw (h:a+w≤s.addr∨s.addr+s.width≤a):Ek a w s=none:=by unfold Ek;rw[if_pos h]
theorem Kx (h1:¬(a+w≤s.addr∨s.addr+s.width≤a)) (h2:a<s.addr∨s.addr+s.width<a+w):Ek a w s=some (0,2):=by unfold Ek;rw[if_neg h1,if_pos h2]
end
theorem Sto.In.w {s:Sto} (h:s.In):wOk s.width=true:=by have:=h.spec.1;simp[wOk];omega
theorem Vw {α:Type} {l pre:List α} {x:α} (h:pre++[x] <+: l.reverse):x∈l:=by
 obtain⟨q,hq⟩:=h;have:x∈l.reverse:=by rw[←hq];simp
 simpa using this
def rcC (b6 b7:Nat) (r:Int × Int):HP:=Sep [.blk b6 40 [.int .u32 r.1],.blk b7 374 [.int .i64 r.2]]
theorem bX {b6 b7:Nat} {r:Int × Int}:Op_ (rcC b6 b7 r) fun K=>K [.blk b6 40 [.int .u32 r.1],.blk b7 374 [.int .i64 r.2]] := .mk fun _ k _ hh=>⟨_,k,hh⟩
theorem II {b6 b7:Nat} (r:Int × Int):∀h,Sep [.blk b6 40 [.int .u32 r.1],.blk b7 374 [.int .i64 r.2]] h→rcC b6 b7 r h:=fun _ h=>h
theorem Pz {a w:Int} {pre:List Sto} {x:Sto} {r:Int × Int} (hn:∀y∈pre,Ek a w y=none) (h:Ek a w x=some r):r=Im a w (pre++[x])∧Mk a w (pre++[x]) (Im a w (pre++[x])):=by
 have h1:Mk a w (pre++[x]) r:=⟨pre,x,rfl,hn,h⟩
 have h2:=h1.eq (List.prefix_refl _);exact⟨h2.symm,by rw[h2];exact h1⟩
theorem gC (b:Nat) (l:List Sto) (a w:Int) (ha:U32 a):Sp Tryz.prog 246 [pt b,.int .u32 a,.int .i64 w] [.hp (DH b l)] fun K=>K (.returned (.tuple #[.int .u32 (fwd l a w).1,.int .i64 (fwd l a w).2])) [.hp (DH b l)]:=by
 have ha':=ha;unfold U32 at ha';cases hk:wOk w with
 | false=>
  rw[show fwd l a w=(0,0) from if_neg fun h=>by rw[hk] at h;cases h.1];refine J2 Tryz.func246 U U U fun e X Φ hS=>Zsr<|Ze (ebx U) fun b5=>Zw<|Ze (eal z40) fun b6=>Zw<|Ze (eal dW) fun b7=>Zw<|Aj<|Zv (yd 2 U U U) ?_;refine Zk (UX ..) [] U U<|Zq<|Zb 2 U<|Zu' U U (congrArg Bool.not hk) U<|Zu' U U (congrArg Bool.not hk) U<|Zu' U U (congrArg Bool.not hk) U<|Zu' U U (congrArg Bool.not hk) U<|Zu' U U (congrArg Bool.not hk) U<|Zv (Ax U (congrArg Bool.not hk) U) ?_;refine Zn<|Zct U<|Zsr<|Ze (es 1 U U U U U)<|Zw0<|Ze (es 0 U U U U U)<|Zw0<|Znr<|Zr1 ?_
  refine Zre (.c 1 U U U (.c 0 U U U .n)) hS [3] 3 U U U U
 | true=>
  have hw:w=1∨w=2∨w=4:=by simp[wOk] at hk;omega
  refine J2 Tryz.func246 U U U fun e X Φ hS=>Zoc 0 I6 U<|fun h4 hal=>Zsr<|Ze (ebx U) fun b5=>Zw<|Ze (eal z40) fun b6=>Zw<|Ze (eal dW) fun b7=>Zw<|Aj<|Zv (yd 2 U U U) ?_;refine Zk (UX ..) [] U U<|Zq<|Zb 2 U<|Zg' U U (congrArg Bool.not hk)<|Zm U<|Zg' U U (congrArg Bool.not hk)<|Zv (yd 2 U U U)<|Zg' U U (congrArg Bool.not hk)<|Zv (ycv Tryz.underlying3 Tryz.underlying40 U (F3 U (by omega))) ?_;refine Zg' U U (congrArg Bool.not hk)<|Zv (Cc U U (by omega) U)<|Zg' U U (congrArg Bool.not hk)<|Zv (yne U U)<|Zv (Ao U (congrArg Bool.not hk) U)<|Zn<|Zif U (fun h20=>?_) (fun h20=>?_)
  refine Zsr<|Ze (es 1 U U U U U)<|Zw0<|Ze (es 0 U U U U U)<|Zw0<|Znr<|Zr1<|Zre (.c 1 U U U (.c 0 U U U .n)) hS [3] 3 ?_ U U U;rotate_left;refine Zks<|Za 2 [2] U U<|Zv (yb l51 U)<|Zv (yb XG U)<|Ze (eal Wj) fun b8=>Zw<|Ze (esw 0 (m:=3) U U U U U U U)<|Zw0<|Znl ?_;refine Zxq<|Zsr<|Zm U<|Zk (c98 ..) [] U U<|fun b1=>Zq<|Znb ?_;rotate_left
  ·rw[show fwd l a w=(0,0) from if_neg fun h=>h20 (by rw[Int.tmod_eq_emod_of_nonneg ha.1];exact h.2)];rfl
  ·have e1:fwd l a w=Im a w l.reverse:=if_pos ⟨hk,by rw[Int.tmod_eq_emod_of_nonneg ha.1] at h20;simpa using h20⟩;rw[e1] at hS;refine Zrf (bU b b1 l) (fun _=>[.blk b6 40 [.int .u32 0],.blk b7 374 [.int .i64 0],.blk b8 212 (wE.cells ⟨a,w,0⟩),.blk b5 3 [.int .i64 w]]) (fun pre=>∀y∈pre,Ek a w y=none) (fun pre=>[.hp (rcC b6 b7 (Im a w pre))]) (fun pre=>Mk a w pre (Im a w pre)) (fun _ _=>[]) (fun _ _=>False) [5,0,2,1,0,0] U U ?_ (fun e' y pre x F hx hn=>?_) (fun D hn=>?_) (fun D pre hx hp=>?_) (fun D id pre hx hp=>?_) (fun _=>U) (by decide);refine fun y=>fun a_1=>?_;rotate_left
   refine Zrg<|Ze (eal Wj) fun b9=>Zw<|Ze (esw 0 (m:=3) U U U U U (Enc.len ..) (Enc.allL ..))<|Zw0<|Znl<|Zak 5 U fun F'=>Zbl<|Zsq<|Zbl<|Zsq<|Zhd [] U U ?_;refine Zht 0 U (ydw 3 (m:=3) U U (Enc.len ..))<|Zht 2 U (ydw 0 (m:=3) U U (Enc.len ..))<|ZH1 1<|Zok (UY ..) [] U U U<|Zqh 0 U ?_;rotate_left;refine Zxn<|Zxs<|Ze (es 1 U U U U U)<|Zw0<|Ze (es 2 U U U U U)<|Zw0<|Znr<|Zmk 0 U<|Zre (.c 0 U U U (.c 1 U U U .n)) hS [4] 5 ?_ U U U;rotate_left;refine Zrt<|Zr2<|Zr1<|Zmk 0 U ?_;rotate_left;refine Zex ?_;rotate_left
   ·exact(by assumption:_∈([]:List Sto)) |> fun h=>by cases h
   ·have hxi:=hal x (Vw hx);have hxa:=hxi.ad;have hxw:=hxi.w;have hxa':=hxa;have hsp:=hxi.spec.1;unfold U32 at hxa';refine ZH1 3<|Zok (Qy ..) [] U U U<|Zqh 0 U<|Zht 4 U (yle U U)<|Zht 5 U (ym U)<|IR 6 U U U (fun h34=>?_) (fun h34=>?_);refine Zhu 6 U U (lkn U (dT h34)) U<|Zhu 7 U U (lkn U (dT h34)) U<|Zhu 8 U U (lkn U (dT h34)) U<|Zhu 9 U U (lkn U (dT h34)) U<|Zhu 10 U U (lkn U (dT h34)) U<|Zht 11 U (Ax U (dT h34) U)<|Zht 12 U (ya U)<|ZHn<|Znx<|Zct U ?_;refine Zex<|Zxb U<|Zxt<|Zxx ?_;rotate_left
    refine Zhg 6 U U (lkn U (dF h34)) (ydw 0 (m:=3) U U (Enc.len ..))<|Zhg 8 U U (lkn U (dF h34)) (ydw 3 (m:=3) U U (Enc.len ..))<|ZH1 7<|Zok (hg:=fun _ fr=>fr.want U U (lkn U (dF h34))) (UY ..) [] U U U<|Zqh 0 U<|ZH1 9<|Zok (hg:=fun _ fr=>fr.want U U (lkn U (dF h34))) (Qy ..) [] U U U<|Zqh 0 U<|Zhg 10 U U (lkn U (dF h34)) (yle U U)<|Zht 11 U (Ao U (dF h34) U)<|Zht 12 U (ya U)<|ZHn ?_;refine Znx<|Zif U (fun h28=>?_) (fun h28=>?_);refine Zex<|Zxb U<|Zxt<|Zxx ?_;rotate_left
    refine Zsq<|Zhd [] U U<|Zht 0 U (ydw 3 (m:=3) U U (Enc.len ..))<|Zht 2 U (ydw 0 (m:=3) U U (Enc.len ..))<|ZH1 1<|Zok (Qy ..) [] U U U<|Zqh 0 U<|ZH1 3<|Zok (Qy ..) [] U U U<|Zqh 0 U<|Zht 4 U (ylt U U)<|Zht 5 U (ym U) ?_;refine IR 6 U U U (fun h47=>?_) (fun h47=>?_);refine Zhu 6 U U (lkn U (dT h47)) U<|Zhu 7 U U (lkn U (dT h47)) U<|Zhu 8 U U (lkn U (dT h47)) U<|Zhu 9 U U (lkn U (dT h47)) U<|Zhu 10 U U (lkn U (dT h47)) U<|Zht 11 U (Ax U (dT h47) U)<|Zht 12 U (ya U)<|ZHn<|Znx<|Zct U ?_;refine Zsr<|Ze (es 1 U U U U U)<|Zw0<|Ze (es 2 U U U U U)<|Zw0<|Znr<|Zr2<|Zr1<|Zr2 ?_;rotate_left
    refine Zhg 6 U U (lkn U (dF h47)) (ydw 0 (m:=3) U U (Enc.len ..))<|Zhg 8 U U (lkn U (dF h47)) (ydw 3 (m:=3) U U (Enc.len ..))<|ZH1 7<|Zok (hg:=fun _ fr=>fr.want U U (lkn U (dF h47))) (UY ..) [] U U U<|Zqh 0 U<|ZH1 9<|Zok (hg:=fun _ fr=>fr.want U U (lkn U (dF h47))) (UY ..) [] U U U<|Zqh 0 U<|Zhg 10 U U (lkn U (dF h47)) (ylt U U)<|Zht 11 U (Ao U (dF h47) U)<|Zht 12 U (ya U)<|ZHn ?_;refine Znx<|Zif U (fun h41=>?_) (fun h41=>?_);refine Zsr<|Ze (es 1 U U U U U)<|Zw0<|Ze (es 2 U U U U U)<|Zw0<|Znr<|Zr2<|Zr1<|Zr2 ?_;rotate_left
    refine Zsk<|Zxn<|Zxq<|Zhd [] U U<|Zht 0 U (yf 0 U)<|Zht 1 U (yf 2 U)<|Zht 2 U (yd 0 U U U)<|Zht 3 U (ydw 3 (m:=3) U U (Enc.len ..))<|Zht 5 U (ydw 0 (m:=3) U U (Enc.len ..)) ?_;refine ZH1 4<|Zok (Qy ..) [] U U U<|Zqh 0 U<|ZH1 6<|Zok (Qy ..) [] U U U<|Zqh 0 U<|Zht 7 U (Dh U U (Re U (by omega)))<|Zht 8 U (AD U U (Re U (by omega)))<|Zht 9 U (Mh U U (by omega) U)<|Zht 10 U (ya U)<|ZHn<|Znx ?_;refine Zsq<|Zsr<|Za 2 [4] U U<|Zn<|Zif U (fun h65=>?_) (fun h65=>?_)
    refine Zrg<|Za 2 [4] U U<|Zv (AD U U (Ar U (by omega)))<|Zv (FF U U (by omega) U)<|Zv (Dh U U U)<|Zv (Fc U U U)<|Zy U<|Zn ?_;refine Zsr<|Zm U<|Ze (es 1 U U U U U)<|Zw0<|Ze (es 2 U U U U U)<|Zw0<|Znr<|Zr2 ?_;rotate_left;refine Zks<|Zm U<|Ze (es 1 U U U U U)<|Zw0<|Ze (es 2 U U U U U)<|Zw0<|Znr<|Zr2 ?_;rotate_left
    ·refine Zrn (MU hn (Kw (.inl h34))) [1,1,1,1] 1 U U
    ·refine Zrn (MU hn (Kw (.inr h28))) [1,1,1,1] 1 U U
    ·obtain⟨e2,h2⟩:=Pz hn (Kx (fun h=>h.elim h34 h28) (.inl h47));refine Zfx [1,1] (II (b6:=b6) (b7:=b7) (0,2)) U ?_;rw[e2];refine Zrr h2 [0] 3 U U
    ·obtain⟨e2,h2⟩:=Pz hn (Kx (fun h=>h.elim h34 h28) (.inr h41));refine Zfx [1,1] (II (b6:=b6) (b7:=b7) (0,2)) U ?_;rw[e2];refine Zrr h2 [0] 3 U U
    ·have e3:Ek a w x=some (XQ w (x.value.fdiv (2 ^ min (8*(a-x.addr)).toNat 32)),1):=by unfold Ek;rw[if_neg (fun h=>h.elim h34 h28),if_neg (fun h=>h.elim h47 h41),if_pos h65]
     obtain⟨e2,h2⟩:=Pz hn e3;refine Zfx [1,1] (II (b6:=b6) (b7:=b7) (XQ w (x.value.fdiv (2 ^ min (8*(a-x.addr)).toNat 32)),1)) U ?_;rw[e2];refine Zrr h2 [0] 3 U U
    ·have e3:Ek a w x=some (x.value.fdiv (2 ^ min (8*(a-x.addr)).toNat 32),1):=by unfold Ek;rw[if_neg (fun h=>h.elim h34 h28),if_neg (fun h=>h.elim h47 h41),if_neg h65]
     obtain⟨e2,h2⟩:=Pz hn e3;refine Zfx [1,1] (II (b6:=b6) (b7:=b7) (x.value.fdiv (2 ^ min (8*(a-x.addr)).toNat 32),1)) U ?_;rw[e2];refine Zrr h2 [0] 3 U U
   ·rw[aI hn];rfl
   ·refine Zox 0 bX U<|Zre (.c 0 U U U (.c 1 U U U .n)) hS [2] 3 ?_ U U U;rw[hp.eq hx];rfl
   ·exact hp.elim
end Go.Proofs.YtpfijldkkfiooaaGreatDoor
namespace Go.Proofs.YtpfijldkkfiooaaGreatDoor
open Go.RowKit
abbrev B16:={ l:List Int // l.length=16∧∀a∈l,0≤a∧a<256 }
def AE:B16:=⟨List.replicate 16 0,by simp,by simp⟩
structure Ln where
 num:Int
 state:Int
 bs:B16
 hn:0≤num∧num<4294967296
def mkL (n s:Int) (b:B16:=AE) (h:0≤n∧n<4294967296:=by omega):Ln:=⟨n,s,b,h⟩
theorem Ln.ext_iff' (m m':Ln):m=m'↔m.num=m'.num∧m.state=m'.state∧m.bs.1=m'.bs.1:=by
 constructor
 ·rintro rfl;simp
 ·rintro⟨h1,h2,h3⟩;cases m;cases m';simp only[Ln.mk.injEq];exact⟨h1,h2,Subtype.ext h3⟩
instance:DecidableEq Ln:=fun s t=>decidable_of_iff _ (Ln.ext_iff' s t).symm
def Ln.cells (m:Ln):List Value := .int .u32 m.num :: .int .i64 m.state::m.bs.1.map (Value.int .u8)
theorem Yq:(Tryz.prog.info? 5).map (·.size)=some 1:=by kernel_rfl
theorem Ln.len (m:Ln):m.cells.length=18:=by simp[Ln.cells,m.bs.2.1]
theorem Ln.one (m:Ln):∀v∈m.cells,v.oneCell'=true:=by intro v hv;simp only[Ln.cells,List.mem_cons,List.mem_map] at hv;rcases hv with rfl|rfl|⟨a,_,rfl⟩<;>rfl
def lnE:Enc Tryz.prog Ln where
 T:=145
 n:=18
 cells:=Ln.cells
 len:=Ln.len
 one:=Ln.one
 pos:=by decide
def ln0:Ln:=⟨0,0,AE,by decide⟩
theorem ML:BX lnE 79 32:=⟨Tryz.underlying79,by
 obtain⟨i0,hi,hz0,hz1,hz2⟩:=info_parts (show(Tryz.prog.info? 145).map (fun i=>(i.zero,i.size,i.bytes))=some (some (.agg (lnE.arr ln0)),18,32) by kernel_rfl)
 exact⟨i0,_,hi,hz0,hz1,hz2,by rw[show(Value.agg (lnE.arr ln0)).cells=lnE.arr ln0 from rfl,lnE.size]⟩⟩
structure Msg where
 kind:Int
 src:Int
 dst:Int
 line:Int
 bs:B16
 hn:0≤line∧line<4294967296
def Msg.cells (m:Msg):List Value := .int .i64 m.kind :: .int .i64 m.src :: .int .i64 m.dst :: .int .u32 m.line::m.bs.1.map (Value.int .u8)
theorem Msg.eq_iff (m m':Msg):m=m'↔m.kind=m'.kind∧m.src=m'.src∧m.dst=m'.dst∧m.line=m'.line∧m.bs.1=m'.bs.1:=by
 constructor
 ·rintro rfl;simp
 ·rintro⟨h1,h2,h3,h4,h5⟩;cases m;cases m';simp only[Msg.mk.injEq];exact⟨h1,h2,h3,h4,Subtype.ext h5⟩
instance:DecidableEq Msg:=fun s t=>decidable_of_iff _ (Msg.eq_iff s t).symm
theorem Msg.len (m:Msg):m.cells.length=20:=by simp[Msg.cells,m.bs.2]
theorem Msg.one (m:Msg):∀v∈m.cells,v.oneCell'=true:=by intro v hv;simp only[Msg.cells,List.mem_cons,List.mem_map] at hv;rcases hv with rfl|rfl|rfl|rfl|⟨a,_,rfl⟩<;>rfl
def Al:Enc Tryz.prog Msg where
 T:=117
 n:=20
 cells:=Msg.cells
 len:=Msg.len
 one:=Msg.one
 pos:=by decide
def Vx:Msg:=⟨0,0,0,0,AE,by decide⟩
def bs0:B16:=AE
def mkM (k s d l:Int) (b:B16:=AE) (h:0≤l∧l<4294967296:=by omega):Msg:=⟨k,s,d,l,b,h⟩
def Mp (b:B16):List Value:=b.1.map (Value.int .u8)
def bsE:Enc Tryz.prog B16 where
 T:=115
 n:=16
 cells:=Mp
 len:=fun b=>by simp[Mp,b.2.1]
 one:=fun b v hv=>by obtain⟨a,_,rfl⟩:=List.mem_map.1 hv;rfl
 pos:=by decide
theorem Y1:bsE.Rec where
 eq:=fun w x y=>by have h:=Kb (P:=Tryz.prog) w Tryz.underlying115 Tryz.underlying5 Yq x.1 y.1 x.2.1 y.2.1;refine(show _=_ from h).trans ?_;rw[show decide (x.1=y.1)=decide (x=y) from decide_eq_decide.2 Subtype.ext_iff.symm]
 calm:=by kernel_rfl
theorem BZ:BX Al 112 48:=⟨Tryz.underlying112,by
 obtain⟨i0,hi,hz0,hz1,hz2⟩:=info_parts (show(Tryz.prog.info? 117).map (fun i=>(i.zero,i.size,i.bytes))=some (some (.agg (Al.arr Vx)),20,48) by kernel_rfl)
 exact⟨i0,_,hi,hz0,hz1,hz2,by rw[show(Value.agg (Al.arr Vx)).cells=Al.arr Vx from rfl,Al.size]⟩⟩
def B2 (n:Int):Bool:=decide (0≤n) && decide (n≤3)
def CH (k:Int):Bool:=decide (k=1) || decide (k=2) || decide (k=3) || decide (k=11) || decide (k=12) || decide (k=13)
def Ei (k:Int):Bool:=decide (k=4) || decide (k=5) || decide (k=6) || decide (k=7) || decide (k=8) || decide (k=9) || decide (k=10)
def Cb (k:Int):Bool:=decide (k=3) || decide (k=11) || decide (k=8) || decide (k=9) || decide (k=10)
def Cd (m:Msg):Bool:=((CH m.kind && decide (m.dst=4) && B2 m.src) || (Ei m.kind && decide (m.src=4) && B2 m.dst)) && (Cb m.kind || decide (m.bs=bs0))
def chk (m:Msg):Int:=if Cd m then 0 else 2
theorem M5 (k:Int) (h:CH k=true):Ei k=false:=by simp[CH,Ei] at *;omega
def isK (k:Int):Bool:=decide (1≤k) && decide (k≤13)
theorem Vo (k:Int):isK k=(CH k || Ei k):=by rw[Bool.eq_iff_iff];simp[isK,CH,Ei];omega
theorem E2 (m:Msg):((Al.cells m).drop 4).take 16=bsE.cells m.bs:=by show(m.cells.drop 4).take 16=Mp m.bs;unfold Msg.cells Mp;simp only[List.drop_succ_cons,List.drop_zero];exact List.take_of_length_le (by simp[m.bs.2.1])
theorem LA (m:Ln):((lnE.cells m).drop 2).take 16=bsE.cells m.bs:=by show(m.cells.drop 2).take 16=Mp m.bs;unfold Ln.cells Mp;simp only[List.drop_succ_cons,List.drop_zero];exact List.take_of_length_le (by simp[m.bs.2.1])
section
variable {P:Program} {α:Type} [DecidableEq α] {E:Enc P α} {N:Nat × List Deferred} {T:Tb} {e:World} {L:List Ck} {x y:Operand} {t t' ty:TypeId} {pos:String} {af:Array Edge} {g:Option (Nat × Bool)} {dd:Option Nat}
theorem dO (R:E.Rec) (p q:α) (hx:evT T x=some (.agg (E.arr p))) (hy:evT T y=some (.agg (E.arr q))) (hT:E.T=t:=by rfl):Yl P N T e L ⟨dd,.binOp .neq t x y t',ty,pos,af,g⟩ (.bool (!decide (p=q))):=fun _ _ fr _=>dC R hT rfl (fr.evT hx) (fr.evT hy) rfl
end
def Jo (l:List Ln) (number:Int):Int:=if l.findIdx (fun x=>decide (x.num=number))<l.length then(l.findIdx (fun x=>decide (x.num=number)):Nat) else -1
section
variable {l:List Ln} {number:Int} {i:Nat}
theorem Vd (hi:i<l.length) (h:(l.getD i ln0).num=number) (hall:∀j,j<i→¬(l.getD j ln0).num=number):Jo l number=i:=by
 have e:l.findIdx (fun x=>decide (x.num=number))=i:=by
  rw[List.findIdx_eq hi];constructor
  ·have:=h;simp only[List.getD,List.getElem?_eq_getElem hi,Option.getD_some] at this;simpa using this
  ·intro j hj;have:=hall j hj;simp only[List.getD,List.getElem?_eq_getElem (show j<l.length by omega),Option.getD_some] at this;simpa using this
 unfold Jo;rw[e,if_pos hi]
theorem XA (hall:∀j,j<l.length→¬(l.getD j ln0).num=number):Jo l number = -1:=by unfold Jo;rw[if_neg];intro hlt;have h1:=List.findIdx_getElem (w:=hlt);have:=hall _ hlt;simp only[List.getD,List.getElem?_eq_getElem hlt,Option.getD_some] at this;simp at h1;exact this h1
theorem GK (l:List Ln) (number:Int):(Jo l number = -1∧∀x∈l,¬x.num=number)∨∃i:Nat,Jo l number=i∧i<l.length∧(l.getD i ln0).num=number∧∀j,j<i→¬(l.getD j ln0).num=number:=by
 by_cases hlt:l.findIdx (fun x=>decide (x.num=number))<l.length
 ·refine .inr ⟨_,by unfold Jo;rw[if_pos hlt],hlt,?_,fun j hj=>?_⟩
  ·have h1:=List.findIdx_getElem (w:=hlt);simpa[List.getD,hlt] using h1
  ·have h1:=List.not_of_lt_findIdx hj;have hj2:j<l.length:=by omega
   simpa[List.getD,hj2] using h1
 ·refine .inl ⟨by unfold Jo;rw[if_neg hlt],fun x hx hn=>hlt ?_⟩;exact List.findIdx_lt_length_of_exists ⟨x,hx,by simpa using hn⟩
end
def si (n:Nat) (num:Int):Nat:=(num%(n:Int)).toNat
section
variable {n i:Nat} {num:Int} {L:List Ln} {l:Ln} {ways:Int}
theorem Hb (hn:0<n):si n num<n:=by unfold si;have h1:=Int.emod_nonneg num (show(n:Int)≠0 by omega);have h2:=Int.emod_lt_of_pos num (show(0:Int)<n by omega);omega
def BT (n i:Nat) (x:Ln):Bool:=decide (si n x.num=i)
def ofs (n:Nat) (L:List Ln) (i:Nat):List Ln:=L.filter (BT n i)
def AW (num:Int) (x:Ln):Bool:=decide (x.num=num)
def AI (L:List Ln) (num:Int):Option Ln:=L.find? (AW num)
def D7 (L:List Ln):Prop:=L.Pairwise fun x y=>¬x.num=y.num
def okS (l:Ln):Bool:=decide (1≤l.state) && decide (l.state≤3)
def repl (l:Ln):List Ln→List Ln
 | []=>[]
 | x::r=>if x.num=l.num then l::r else x::repl l r
def OG (num:Int):List Ln→List Ln
 | []=>[]
 | x::r=>if x.num=num then r else x::OG num r
def dropL (L:List Ln) (num:Int):List Ln:=L.filter fun x => !AW num x
def Cu (n:Nat) (ways:Int) (L:List Ln) (l:Ln):Int:=if okS l=false then 2 else if AI L l.num=none∧ways≤((ofs n L (si n l.num)).length:Int) then 200 else 0
def putL (n:Nat) (ways:Int) (L:List Ln) (l:Ln):List Ln:=if Cu n ways L l=0 then(if AI L l.num=none then L++[l] else repl l L) else L
theorem GJ (h:Jo L num = -1∧∀x∈L,¬x.num=num):AI L num=none:=by unfold AI;rw[List.find?_eq_none];intro x hx;simp[AW,h.2 x hx]
theorem Jp:∀{L:List Ln} {i:Nat},i<L.length→(L.getD i ln0).num=num→(∀j,j<i→¬(L.getD j ln0).num=num)→AI L num=some (L.getD i ln0)
 | [],i,hi,_,_=>by simp at hi
 | x::r,0,_,h,_=>by have h:x.num=num:=h;show(x::r).find? _=some x;simp[List.find?,AW,h]
 | x::r,i+1,hi,h,hall=>by have h0:¬x.num=num:=hall 0 (by omega);show(x::r).find? _=_;simp only[List.find?,AW,dF h0];have:=Jp (L:=r) (i:=i) (by simpa using hi) h fun j hj=>hall (j+1) (by omega);simpa[AI,AW] using this
theorem TQ:∀{L:List Ln} {i:Nat},i<L.length→(L.getD i ln0).num=l.num→(∀j,j<i→¬(L.getD j ln0).num=l.num)→L.set i l=repl l L
 | [],i,hi,_,_=>by simp at hi
 | x::r,0,_,h,_=>by have h:x.num=l.num:=h;simp[repl,h]
 | x::r,i+1,hi,h,hall=>by have h0:¬x.num=l.num:=hall 0 (by omega);simp only[List.set_cons_succ,repl,if_neg h0];rw[TQ (L:=r) (i:=i) (by simpa using hi) h fun j hj=>hall (j+1) (by omega)]
theorem Tu:∀{L:List Ln} {i:Nat},i<L.length→(L.getD i ln0).num=num→(∀j,j<i→¬(L.getD j ln0).num=num)→L.take i++L.drop (i+1)=OG num L
 | [],i,hi,_,_=>by simp at hi
 | x::r,0,_,h,_=>by have h:x.num=num:=h;simp[OG,h]
 | x::r,i+1,hi,h,hall=>by have h0:¬x.num=num:=hall 0 (by omega);simp only[List.take_succ_cons,List.drop_succ_cons,OG,if_neg h0,List.cons_append];rw[Tu (L:=r) (i:=i) (by simpa using hi) h fun j hj=>hall (j+1) (by omega)]
theorem OF (h:∀x∈L,¬x.num=num):L.filter (fun x => !AW num x)=L:=by rw[List.filter_eq_self];intro x hx;simp[AW,h x hx]
theorem KQ:∀{L:List Ln},D7 L→OG num L=dropL L num
 | [],_=>rfl
 | x::r,hu=>by
  have hu':=List.pairwise_cons.1 hu;by_cases h0:x.num=num
  ·simp only[OG,if_pos h0,dropL,List.filter,AW,dT h0,Bool.not_true];have:=OF (num:=num) (L:=r) fun y hy he=>hu'.1 y hy (h0.trans he.symm);simpa[AW] using this.symm
  ·simp only[OG,if_neg h0,dropL,List.filter,AW,dF h0,Bool.not_false];rw[KQ hu'.2];rfl
theorem IH (L:List Ln) (num:Int):AI (ofs n L (si n num)) num=AI L num:=by
 unfold AI ofs;induction L with
 | nil=>rfl
 | cons x r ih=>
  by_cases h0:x.num=num
  ·have:BT n (si n num) x=true:=by simp[BT,h0]
   rw[List.filter_cons_of_pos this];simp[List.find?,AW,h0]
  ·by_cases h1:BT n (si n num) x=true
   ·rw[List.filter_cons_of_pos h1];simp only[List.find?,AW,dF h0];simpa[AW] using ih
   ·rw[List.filter_cons_of_neg h1];simp only[List.find?,AW,dF h0];simpa[AW] using ih
theorem Dy (L:List Ln) (l:Ln):ofs n (repl l L) (si n l.num)=repl l (ofs n L (si n l.num)):=by
 unfold ofs;induction L with
 | nil=>rfl
 | cons x r ih=>
  by_cases h0:x.num=l.num
  ·have h1:BT n (si n l.num) x=true:=by simp[BT,h0]
   have h2:BT n (si n l.num) l=true:=by simp[BT]
   rw[List.filter_cons_of_pos h1];simp only[repl,if_pos h0];rw[List.filter_cons_of_pos h2]
  ·simp only[repl,if_neg h0];by_cases h1:BT n (si n l.num) x=true
   ·rw[List.filter_cons_of_pos h1,List.filter_cons_of_pos h1];simp only[repl,if_neg h0];rw[ih]
   ·rw[List.filter_cons_of_neg h1,List.filter_cons_of_neg h1,ih]
theorem D2 (L:List Ln) (l:Ln) (h:¬i=si n l.num):ofs n (repl l L) i=ofs n L i:=by
 unfold ofs;induction L with
 | nil=>rfl
 | cons x r ih=>
  by_cases h0:x.num=l.num
  ·have h1:¬BT n i x=true:=by simp[BT,h0];exact fun e=>h e.symm
   have h2:¬BT n i l=true:=by simp[BT];exact fun e=>h e.symm
   rw[List.filter_cons_of_neg h1];simp only[repl,if_pos h0];rw[List.filter_cons_of_neg h2]
  ·simp only[repl,if_neg h0];by_cases h1:BT n i x=true
   ·rw[List.filter_cons_of_pos h1,List.filter_cons_of_pos h1,ih]
   ·rw[List.filter_cons_of_neg h1,List.filter_cons_of_neg h1,ih]
theorem F8 (L:List Ln) (l:Ln):ofs n (L++[l]) (si n l.num)=ofs n L (si n l.num)++[l]:=by simp[ofs,List.filter_append,List.filter,BT]
theorem Fu (L:List Ln) (l:Ln) (h:¬i=si n l.num):ofs n (L++[l]) i=ofs n L i:=by
 have:BT n i l=false:=by simp[BT];exact fun e=>h e.symm
 simp[ofs,List.filter_append,List.filter,this]
theorem Ft (L:List Ln) (num:Int):ofs n (dropL L num) i=dropL (ofs n L i) num:=by unfold ofs dropL;rw[List.filter_filter,List.filter_filter];congr 1;funext x;exact Bool.and_comm _ _
theorem JE (L:List Ln) (num:Int) (h:¬i=si n num):ofs n (dropL L num) i=ofs n L i:=by rw[Ft];refine OF fun x hx e=>h ?_;have:=(List.mem_filter.1 hx).2;simp[BT,e] at this;exact this.symm
theorem D7.ofs (h:D7 L) (i:Nat):D7 (ofs n L i):=List.Pairwise.filter _ h
theorem D7.drop (h:D7 L) (num:Int):D7 (dropL L num):=List.Pairwise.filter _ h
theorem MY (h:AI L num=none):∀x∈L,¬x.num=num:=fun x hx e=>by have:=List.find?_eq_none.1 h x hx;simp[AW,e] at this
theorem D7.snoc (h:D7 L) (hn:AI L l.num=none):D7 (L++[l]):=by unfold D7;rw[List.pairwise_append];refine⟨h,by simp,fun x hx y hy=>?_⟩;rw[List.mem_singleton] at hy;subst hy;exact MY hn x hx
theorem JD:∀{L:List Ln} {x:Ln},x∈repl l L→(x∈L∨x=l)
 | [],_,h=>by cases h
 | y::r,x,h=>by
  by_cases h0:y.num=l.num
  ·simp only[repl,if_pos h0] at h;rcases List.mem_cons.1 h with h|h
   ·exact .inr h
   ·exact .inl (by simp[h])
  ·simp only[repl,if_neg h0] at h;rcases List.mem_cons.1 h with h|h
   ·exact .inl (by simp[h])
   ·rcases JD h with h|h
    ·exact .inl (by simp[h])
    ·exact .inr h
theorem D7.repl:∀{L:List Ln},D7 L→D7 (repl l L)
 | [],_=>List.Pairwise.nil
 | x::r,hu=>by
  have hu':=List.pairwise_cons.1 hu;by_cases h0:x.num=l.num
  ·simp only[Go.Proofs.YtpfijldkkfiooaaGreatDoor.repl,if_pos h0];exact List.pairwise_cons.2 ⟨fun y hy e=>hu'.1 y hy (h0.trans e),hu'.2⟩
  ·simp only[Go.Proofs.YtpfijldkkfiooaaGreatDoor.repl,if_neg h0];refine List.pairwise_cons.2 ⟨fun y hy e=>?_,D7.repl hu'.2⟩;rcases JD hy with hy|rfl
   ·exact hu'.1 y hy e
   ·exact h0 e
theorem Fx:∀(L:List Ln),(repl l L).length=L.length
 | []=>rfl
 | x::r=>by
  unfold repl;split
  ·rfl
  ·simp[Fx r]
theorem Ji (L:List Ln) (num:Int):(dropL L num).length≤L.length:=List.length_filter_le _ _
theorem D7.putL (h:D7 L):D7 (putL n ways L l):=by
 unfold Go.Proofs.YtpfijldkkfiooaaGreatDoor.putL;split
 ·split
  ·exact h.snoc ‹_›
  ·exact h.repl
 ·exact h
def FW (n:Nat) (ways:Int) (L:List Ln):Prop:=∀i,i<n→((ofs n L i).length:Int)≤ways
theorem FW.drop (h:FW n ways L) (num:Int):FW n ways (dropL L num):=fun i hi=>by have:=h i hi;rw[Ft];have h2:=Ji (ofs n L i) num;omega
theorem FW.putL (h:FW n ways L) (l:Ln):FW n ways (putL n ways L l):=fun i hi=>by
 have h0:=h i hi;unfold Go.Proofs.YtpfijldkkfiooaaGreatDoor.putL;split
 ·rename_i he;split
  ·rename_i hn;by_cases e:i=si n l.num
   ·subst e;rw[F8];unfold Cu at he;split at he
    ·omega
    ·split at he
     ·omega
     ·rename_i h2;simp only[List.length_append,List.length_cons,List.length_nil];have:¬ways≤((ofs n L (si n l.num)).length:Int):=fun h=>h2 ⟨hn,h⟩;omega
   ·rw[Fu _ _ e];exact h0
  ·by_cases e:i=si n l.num
   ·subst e;rw[Dy,Fx];exact h0
   ·rw[D2 _ _ e];exact h0
 ·exact h0
theorem FW.nil (h:0≤ways):FW n ways []:=fun _ _=>by simpa[ofs] using h
def allL (n:Nat) (L:List Ln):List Ln:=(List.range n).flatMap (ofs n L)
theorem Jn:∀(m:Nat) (L:List Ln),((List.range m).flatMap fun i=>L.filter (BT n i)).length=(L.filter fun x=>decide (si n x.num<m)).length
 | 0,L=>by
  have:(L.filter fun x=>decide (si n x.num<0))=[]:=List.filter_eq_nil_iff.2 fun x _=>by simp
  rw[this];rfl
 | m+1,L=>by
  rw[List.range_succ,List.flatMap_append,List.length_append,Jn m L];simp only[List.flatMap_cons,List.flatMap_nil,List.append_nil];induction L with
  | nil=>rfl
  | cons x r ih=>
   by_cases h1:si n x.num=m
   ·rw[List.filter_cons_of_pos (p:=BT n m) (by simpa[BT] using h1),List.filter_cons_of_neg (by simp;omega),List.filter_cons_of_pos (p:=fun x:Ln=>decide (si n x.num<m+1)) (by simp;omega),List.length_cons,List.length_cons];omega
   ·rw[List.filter_cons_of_neg (p:=BT n m) (by simpa[BT] using h1)];by_cases h2:si n x.num<m
    ·rw[List.filter_cons_of_pos (by simpa using h2),List.filter_cons_of_pos (p:=fun x:Ln=>decide (si n x.num<m+1)) (by simp;omega),List.length_cons,List.length_cons];omega
    ·rw[List.filter_cons_of_neg (by simpa using h2),List.filter_cons_of_neg (p:=fun x:Ln=>decide (si n x.num<m+1)) (by simp;omega)];exact ih
theorem Fe (hn:0<n) (L:List Ln):(allL n L).length=L.length:=by unfold allL;have e:(ofs n L)=fun i=>L.filter (BT n i):=rfl;rw[e,Jn n L,List.filter_eq_self.2];intro x _;simpa using Hb hn
end
def Am (pick:Int) (n:Nat):Nat:=(Int.tmod (Int.tmod pick n+n) n).toNat
theorem Qe (p:Int) (n:Nat) (h:0<n) : -(n:Int)<Int.tmod p n∧Int.tmod p n<n:=by have h1:=Int.tmod_lt_of_pos p (show(0:Int)<n by omega);have h2:=Int.lt_tmod_of_pos p (show(0:Int)<n by omega);omega
theorem Q0 (p:Int) (n:Nat) (h:0<n):Int.tmod (Int.tmod p n+n) n=((Am p n:Nat):Int):=by have h1:=Qe p n h;have h2:0≤Int.tmod (Int.tmod p n+n) n:=Int.tmod_nonneg _ (by omega);unfold Am;omega
theorem HN (p:Int) (n:Nat) (h:0<n):Am p n<n:=by have h1:=Q0 p n h;have h2:=(Qe (Int.tmod p n+n) n h).2;omega
def HT (n:Nat) (ways:Int) (L:List Ln) (num pick:Int):Option Ln:=
 if AI L num=none∧ways≤((ofs n L (si n num)).length:Int) then some ((ofs n L (si n num)).getD (Am pick (ofs n L (si n num)).length) ln0) else none
def Uz (sets:Int):Int:=IntKind.i64.wrap (BitVec.ofInt IntKind.i64.bits sets &&& BitVec.ofInt IntKind.i64.bits (sets-1)).toNat
def Q1 (sets:Int):Bool:=decide (sets=1) || decide (sets=2) || decide (sets=4) || decide (sets=8) || decide (sets=16) || decide (sets=32) || decide (sets=64)
def BV (sets ways:Int):Bool:=Q1 sets && decide (1≤ways) && decide (ways≤8)
theorem RA:∀k:_root_.Fin 65,1≤k.1→(decide (Uz (k.1:Int)=0)=Q1 (k.1:Int)):=by decide+kernel
theorem Mn {sets:Int} (h:1≤sets∧sets≤64):(Uz sets=0↔Q1 sets=true):=by have:=RA ⟨sets.toNat,by omega⟩ (show 1≤sets.toNat by omega);simp only[] at this;rw[show((sets.toNat:Nat):Int)=sets by omega] at this;rw[←this];simp
theorem FQ {sets ways:Int} (h:BV sets ways=true):¬sets<1∧¬64<sets∧¬Uz sets≠0∧¬ways<1∧¬8<ways:=by
 unfold BV at h;simp only[Bool.and_eq_true,decide_eq_true_eq] at h;obtain⟨⟨h1,h2⟩,h3⟩:=h;have h4:1≤sets∧sets≤64:=by simp[Q1] at h1;omega
 exact⟨by omega,by omega,fun hn=>hn ((Mn h4).2 h1),by omega,by omega⟩
theorem TB {sets ways:Int} (h:BV sets ways=false) (h1:¬sets<1) (h2:¬64<sets) (h3:¬Uz sets≠0) (h4:¬ways<1) (h5:¬8<ways):False:=by have h6:Q1 sets=true:=(Mn (by omega)).1 (Classical.not_not.1 h3);simp[BV,h6] at h;omega
theorem JF {n i:Nat} (L:List Ln):(ofs n L i).length≤L.length:=List.length_filter_le _ _
theorem TA {n:Nat} {ways:Int} (h:BV ((n:Nat):Int) ways=true):0<n∧n≤64∧1≤ways∧ways≤8:=by obtain⟨h1,h2,_,h4,h5⟩:=FQ h;omega
end Go.Proofs.YtpfijldkkfiooaaGreatDoor
namespace Go.Proofs.YtpfijldkkfiooaaGreatDoor
open Go
structure Row where
 A:Option Addr
 cap:Nat
 l:List Ln
def Row.val (r:Row):Value := .slice r.A r.l.length r.cap
def JS (r:Row):Ck := .hp (own lnE r.A r.cap r.l)
def AY (b n:Nat) (ways:Int) (L:List Ln):HP:=fun h=>0<n∧n≤64∧∃(g:Nat) (rs:List Row),rs.length=n∧(∀j r,rs[j]? = some r→r.l=ofs n L j)∧Sep (.blk b 224 [.slice (some ⟨g,0,none⟩) n n,.int .i64 ways] :: .blk g 79 (rs.map Row.val)::rs.map JS) h
theorem IG {α β:Type} (f:α→β) {l:List α} {i:Nat} {x:α} (h:l[i]? = some x):nth (l.map f) i=some (f x):=by rw[A7,List.getElem?_map,h];rfl
theorem FP {α β:Type} (f:α→β) {l:List α} {i:Nat} (y:α) (h:i<l.length):put (l.map f) i (f y)=some ((l.set i y).map f):=by rw[Dz _ _ _ (by simpa using h),List.map_set]
def Bk (b n i:Nat) (ways:Int) (L:List Ln) (g:Nat) (cells:List Value) (R:HP):Prop:=∀L' A' cap' cells',(∀j,j<n→j≠i→ofs n L' j=ofs n L j)→put cells i (.slice A' (ofs n L' i).length cap')=some cells'→∀h,Sep [.blk b 224 [.slice (some ⟨g,0,none⟩) n n,.int .i64 ways],.blk g 79 cells',.hp (own lnE A' cap' (ofs n L' i)),.hp R] h→AY b n ways L' h
theorem GQ {b n:Nat} {ways:Int} {L:List Ln} (i:Nat) (hi:0<n→i<n):Op_ (AY b n ways L) fun K=>0<n→n≤64→i<n→∀g cells A cap R,nth cells i=some (.slice A (ofs n L i).length cap)→cells.length=n→Bk b n i ways L g cells R→K [.blk b 224 [.slice (some ⟨g,0,none⟩) n n,.int .i64 ways],.blk g 79 cells,.hp (own lnE A cap (ofs n L i)),.hp R] := .mk fun G k h hh=>by
 obtain⟨hn,hn64,g,rs,hl,hr,hs⟩:=hh;have hi:=hi hn;have hir:i<rs.length:=by omega
 have hri:rs[i]? = some rs[i]:=gE hir;have hri':=hr i _ hri;have h1:=IG JS hri;obtain⟨M,hM,_⟩:=Sep.at_ h1 (FP JS rs[i] hir)
 have hk:=k hn hn64 hi g (rs.map Row.val) rs[i].A rs[i].cap (Sep M) (by
  have:=IG Row.val hri;rw[this];unfold Row.val
  rw[hri']) (by simpa using hl) (by
  intro L' A' cap' cells' ho hp h hs';have hp':=FP Row.val (⟨A',cap',ofs n L' i⟩:Row) hir;rw[show Row.val ⟨A',cap',ofs n L' i⟩ = .slice A' (ofs n L' i).length cap' from rfl] at hp';have:=hp.symm.trans hp';cases this;obtain⟨M',hM',hback⟩:=Sep.at_ h1 (FP JS (⟨A',cap',ofs n L' i⟩:Row) hir);have:M'=M:=by rw[hM] at hM';cases hM';rfl
  subst this;refine⟨hn,hn64,g,rs.set i ⟨A',cap',ofs n L' i⟩,by simpa using hl,?_,?_⟩
  ·intro j r hj;by_cases hji:j=i
   ·subst hji;rw[List.getElem?_set_self hir] at hj;cases hj;rfl
   ·rw[List.getElem?_set_ne (Ne.symm hji)] at hj;have hjn:j<n:=by have:=(List.getElem?_eq_some_iff.1 hj).1;omega
    rw[ho j hjn hji];exact hr j r hj
  ·refine hs'.mapTl fun h hs=>hs.mapTl fun h hs=>hback h ?_;refine hs.mapTl fun h hs=>?_;have:=Sep.flat hs
   simpa using this)
 refine⟨_,hk,?_⟩;refine hs.mapTl fun h hs=>hs.mapTl fun h hs=>?_;have:=Sep.pick hM hs;refine Sep.hd (p:=JS rs[i]) ?_ fun h hh=>?_
 ·refine this.mapTl fun h hs=>?_;have hs2:Sep (M++[]) h:=by simpa using hs
  exact hs2.unflat
 ·show own lnE rs[i].A rs[i].cap (ofs n L i) h;rw[←hri'];exact hh
theorem G3 {α:Type}:∀{l:List α} {i:Nat} {x:α},nth l i=some x→put l i x=some l
 | [],_,_,h=>by cases h
 | a::l,0,x,h=>by cases h;rfl
 | a::l,i+1,x,h=>by have:=G3 (l:=l) (i:=i) (x:=x) h;unfold Go.Proofs.YtpfijldkkfiooaaGreatDoor.put;rw[this]
theorem Bk.same {b n i g:Nat} {ways:Int} {L:List Ln} {cells:List Value} {R:HP} {A:Option Addr} {cap:Nat} (h:Bk b n i ways L g cells R) (hc:nth cells i=some (.slice A (ofs n L i).length cap)):∀h,Sep [.blk b 224 [.slice (some ⟨g,0,none⟩) n n,.int .i64 ways],.blk g 79 cells,.hp (own lnE A cap (ofs n L i)),.hp R] h→AY b n ways L h:=h L A cap cells (fun _ _ _=>rfl) (G3 hc)
end Go.Proofs.YtpfijldkkfiooaaGreatDoor
namespace Go.Proofs.YtpfijldkkfiooaaGreatDoor
open Go
set_option maxRecDepth 4000
theorem RL (b n:Nat) (ways:Int) (G:Option Addr) (h0:ways≠0:=by assumption):Sp Tryz.prog 124 [pt b] [.blk b 224 [.slice G n n,.int .i64 ways]] fun K=>K (.returned (.bool false)) [.blk b 224 [.slice G n n,.int .i64 ways]]:=by refine Zen Tryz.func124 U U U fun e X Φ hS=>Zsr<|Zy U<|Zns<|Zm U<|Zv (D6 U U U)<|Zm U<|Zg U U ?_;refine Za 6 [1,0] U U ?_;refine Zy U<|Znr<|Zre (.t U .n) hS [0] 0 ?_ U U U;simp[pk,h0]
theorem gA (x:Ln) (b3:Nat) (num:Int):Sp Tryz.prog 235 [.agg (lnE.arr x),pt b3] [.blk b3 40 [.int .u32 num]] fun K=>K (.returned (.bool (decide (x.num=num)))) [.blk b3 40 [.int .u32 num]]:=by refine Zen Tryz.func235 U U U fun e X Φ hS=>Zsr<|Ze (A8 U) fun b2=>Zw<|Zy U<|Zns<|Za 3 [0,0,1] U U ?_;refine Zb 2 U<|Znr<|Zre (.t U .n) hS [1] 1 U U U U
theorem fZ (c:Ck) (A:Option Addr) (cap b3:Nat) (l:List Ln) (num:Int) (hR:Rd lnE c A cap l) (hl:l.length≤1048576):Sp Tryz.prog 234 [.slice A l.length cap,.func (.func 235) #[] #[pt b3]] [c,.blk b3 40 [.int .u32 num]] fun K=>K (.returned (.int .i64 (Jo l num))) [c,.blk b3 40 [.int .u32 num]]:=by
 refine Zen Tryz.func234 U U U fun e X Φ hS=>Zsr<|Zy U<|Aj<|Zm U<|Zv (Aw ⟨_,Tryz.underlying79⟩ U)<|Zm U ?_;refine Znb ?_;refine Zlq (ι:={ i:Nat // i≤l.length∧∀j,j<i→¬(l.getD j ln0).num=num }) (fun i=>[(8,.int .i64 (i.1:Int)),(7,.int .i64 (l.length:Int)),(0,.slice A l.length cap),(1,.func (.func 235) #[] #[pt b3])]) (fun _=>[c,.blk b3 40 [.int .u32 num]]) (fun i=>l.length-i.1) ⟨0,by omega,fun j hj=>by omega⟩ ⟨U,U,U,U,trivial⟩ [0,0] U fun i=>Zsr<|Zv (ylt U U)<|Znq<|Zif U (fun h9=>?_) (fun h9=>?_);refine Zkn<|Zsq<|Zbl<|Zsr<|Zb 2 U<|Zns ?_
 refine Zb 3 U<|Zv (yea 0 hR U U U (by first|assumption|omega) U Tryz.underlying79 U)<|Zv (yel 0 hR U (gE (by first|assumption|omega)) U U U)<|Zkv (gA ..) [1] U U U U<|Zq<|Zn<|Zif U (fun h16=>?_) (fun h16=>?_);refine Zsr<|Zb 2 U<|Znr<|Zr2<|Zr1<|Zr1<|Zr2 ?_;refine Zr1<|Zre (.t U .n) hS [1,0] 0 ?_ U U U;rotate_left;refine Zsk<|Zxn<|Znx<|Zrg<|Zv (Ac U U (Ar U (by omega)))<|Zm U<|Znl ?_;rotate_left;refine Zex<|Zxt<|Zxt<|Zxx<|Zxs<|Zy U<|Znr ?_;refine Zre (.t U .n) hS [0,0] 0 ?_ U U U;rotate_left
 ·have hlt:i.1<l.length:=by omega
  have e1:l.getD i.1 ln0=l[i.1]:=by simp[List.getD,hlt]
  rw[Vd hlt (by rw[e1];exact h16) i.2.2];rfl
 ·have hlt:i.1<l.length:=by omega
  have e1:l.getD i.1 ln0=l[i.1]:=by simp[List.getD,hlt]
  refine Zlr ⟨i.1+1,by omega,fun j hj=>?_⟩ (by show l.length-(i.1+1)<l.length-i.1;omega) ⟨U,U,U,U,trivial⟩ [1,0] 0 U U;by_cases hji:j=i.1
  ·rw[hji,e1];exact h16
  ·exact i.2.2 j (by omega)
 ·have hlt:i.1=l.length:=by have:=i.2.1;omega
  rw[XA fun j hj=>i.2.2 j (by omega)];rfl
theorem N7 (b n g cap:Nat) (ways num:Int) (L:List Ln) (cells:List Value) (A:Option Addr) (h0:0<n) (h1:n≤64) (hn:0≤num∧num<4294967296) (hl:(ofs n L (si n num)).length≤1048576) (hc:nth cells (si n num)=some (.slice A (ofs n L (si n num)).length cap)) (hcl:cells.length=n):Sp Tryz.prog 202 [pt b,.int .u32 num] [.blk b 224 [.slice (some ⟨g,0,none⟩) n n,.int .i64 ways],.blk g 79 cells,.hp (own lnE A cap (ofs n L (si n num)))] fun K=>K (.returned (.tuple #[.pointer (some ⟨g,si n num,none⟩),.int .i64 (Jo (ofs n L (si n num)) num)])) [.blk b 224 [.slice (some ⟨g,0,none⟩) n n,.int .i64 ways],.blk g 79 cells,.hp (own lnE A cap (ofs n L (si n num)))]:=by
 have hi:si n num<n:=Hb h0;have he:num.tmod (n:Int)=((si n num:Nat):Int):=by unfold si;rw[Int.tmod_eq_emod_of_nonneg hn.1];have:=Int.emod_nonneg num (show(n:Int)≠0 by omega);omega
 refine Zen Tryz.func202 U U U fun e X Φ hS=>Zsr<|Ze (ebx U) fun b3=>Zw<|Zb 2 U<|Znq<|Zhd [] U U<|Zht 0 U (ym U) ?_;refine Zht 1 U (yn U)<|Zht 2 U (yf 0 U)<|Zht 3 U (yd 1 U U U)<|Zht 4 U (yd 0 U U U)<|Zht 5 U (ym U)<|Zht 6 U (yn U)<|Zht 7 U (yf 0 U)<|Zht 8 U (yd 1 U U U)<|Zht 9 U (Aw ⟨_,Tryz.underlying222⟩ U)<|Zht 10 U (ycv Tryz.underlying3 Tryz.underlying40 U (F3 U (by omega))) ?_;refine Zht 11 U (Cc U U (by omega) U) ?_;rw[he];refine Zht 12 U (yeb (s:=1) (si n num) Tryz.underlying222 U U hi (by omega))<|Zht 13 U (ya U)<|ZHn<|Zxs<|Zb 2 U ?_;refine Zv (yd 2 U U hc)<|Zv (yfn U U) ?_
 refine Zk (fZ _ A cap b3 (ofs n L (si n num)) num own.rd hl) [3,0] U U<|Zq<|Zy U<|Znr<|Zre (.t U (.t U .n)) hS [2,2,0] 1 U U U U
theorem eW (b n:Nat) (ways num:Int) (L:List Ln) (hw:ways≠0) (hn:0≤num∧num<4294967296) (hl:L.length≤1048576):Sp Tryz.prog 146 [pt b,.int .u32 num] [.hp (AY b n ways L)] fun K=>(∀x,AI L num=some x→K (.returned (.tuple #[.agg (lnE.arr x),.bool true])) [.hp (AY b n ways L)])∧(AI L num=none→K (.returned (.tuple #[.agg (lnE.arr ln0),.bool false])) [.hp (AY b n ways L)]):=by
 refine Zen Tryz.func146 U U U fun e X Φ hS=>Zoc 0 (GQ (si n num) Hb) U<|fun h0 h64 hi g cells A cap R hc hcl hB=>Zsr<|Ze (eal Fd) fun b4=>Zw<|Zy U<|Aj<|Zm U<|Zk (RL ..) [1] U U ?_;refine Zq<|Zn<|Zcf U<|Zks<|Zb 2 U ?_;have hlo:(ofs n L (si n num)).length≤1048576:=Nat.le_trans (List.length_filter_le _ _) hl;have hg:=IH (n:=n) L num;rcases GK (ofs n L (si n num)) num with⟨hf,hall⟩|⟨k,hf,hk,hx,hall⟩
 ·have h2:=(hg.symm.trans (GJ ⟨hf,hall⟩))
  refine Zk (N7 b n g cap ways num L cells A h0 h64 hn hlo hc hcl) [0,1,1] U U<|Zq<|Zb 5 U<|Znq ?_;refine Zsr<|Zb 2 U<|Zn<|DF U (dT (by omega))<|Zrt<|Zr1 ?_;refine Zfx [0,0,0,1] (hB.same hc) U ?_;refine Zre (.wh 1 (m:=18) U U U (.t U .n)) (hS.2 h2) [0] 1 U U U U
 ·have h2:=hg.symm.trans (Jp hk hx hall);refine Zk (N7 b n g cap ways num L cells A h0 h64 hn hlo hc hcl) [0,1,1] U U<|Zq<|Zb 5 U<|Znq ?_;refine Zsr<|Zb 2 U<|Zn<|Df U (dF (by omega))<|Zks<|Zm U ?_;refine Zv (yn U) ?_;rw[hf];have e1:(ofs n L (si n num)).getD k ln0=(ofs n L (si n num))[k]:=by simp[List.getD,hk]
  rw[e1] at h2;refine Zv (yd 1 U U hc)<|Zm U<|Zv (yea 2 own.rd U U U (by first|assumption|omega) U Tryz.underlying79 U)<|Zv (yel 2 own.rd U (gE (by first|assumption|omega)) U U U)<|Ze (esw 3 (m:=18) U U U U U (Enc.len ..) (Enc.allL ..))<|Zw0<|Zy U<|Znr ?_;refine Zfx [0,0,0,1] (hB.same hc) U ?_;refine Zre (.wh 1 (m:=18) U U (Enc.len ..) (.t U .n)) (hS.1 _ h2) [0] 1 U U U U
theorem UR (b n:Nat) (ways:Int) (L:List Ln) (l:Ln) (hw:ways≠0) (hl:L.length≤1000000):Sp Tryz.prog 223 [pt b,.agg (lnE.arr l)] [.hp (AY b n ways L)] fun K=>K (.returned (.int .i64 (Cu n ways L l))) [.hp (AY b n ways (putL n ways L l))]:=by
 refine Zen Tryz.func223 U U U fun e X Φ hS=>Zoc 0 (GQ (si n l.num) Hb) U<|fun h0 h64 hi g cells A cap R hc hcl hB=>Zsr<|Ze (A8 U) fun b3=>Zw<|Zy U<|Aj<|Zm U<|Zk (RL ..) [1] U U ?_;refine Zq<|Zn<|Zcf U<|Zkn<|Zsq<|Zsr<|Za 2 [1,1] U U ?_;refine Zb 2 U<|Zgs U U (fun h12=>?_) (fun h12=>?_);refine Zu' U U (dT h12) U<|Zu' U U (dT h12) U<|Zu' U U (dT h12) U<|Zv (Ax U (dT h12) U)<|Zn<|Zct U<|Zsr<|Zy U<|Znl ?_;refine Zxr<|Zr1 ?_;rotate_left
 refine Zg' U U (dF h12)<|Zv (yf 1 U)<|Zg' U U (dF h12)<|Zv (yd 1 U U U)<|Zg' U U (dF h12)<|Zv (ygt U U)<|Zv (Ao U (dF h12) U)<|Zn<|Zif U (fun h16=>?_) (fun h16=>?_);refine Zsr<|Zy U<|Znr<|Zr1 ?_;rotate_left;refine Zks<|Za 3 [0,1] U U ?_;rotate_left
 ·have he:Cu n ways L l=2:=if_pos (by simp[okS];omega);have hp:putL n ways L l=L:=if_neg (by rw[he];decide);rw[he,hp] at hS;refine Zfx [0,1,1,1] (hB.same hc) U<|Zre (.t U .n) hS [0] 1 U U U U
 ·have he:Cu n ways L l=2:=if_pos (by simp[okS];omega);have hp:putL n ways L l=L:=if_neg (by rw[he];decide);rw[he,hp] at hS;refine Zfx [0,1,1,1] (hB.same hc) U<|Zre (.t U .n) hS [0] 1 U U U U
 ·have hn:=l.hn;have hok:okS l=true:=by simp[okS];omega
  have hlo:(ofs n L (si n l.num)).length≤1048576:=Nat.le_trans (JF L) (by omega);have hg:=IH (n:=n) L l.num;rcases GK (ofs n L (si n l.num)) l.num with⟨hf,hall⟩|⟨k,hf,hk,hx,hall⟩
  ·have h2:=(hg.symm.trans (GJ ⟨hf,hall⟩))
   refine Zk (N7 b n g cap ways l.num L cells A h0 h64 hn hlo hc hcl) [0,1,1] U U<|Zq<|Zb 5 U<|Znq ?_;refine Zbl<|Zsr<|Zb 3 U<|Zn<|Df U (dF (by omega))<|Zsq<|Zhd [] U U ?_;refine Zht 0 U (ym U)<|Zht 1 U (yn U)<|Zht 2 U (yd 1 U U hc)<|Zht 3 U (Aw ⟨_,Tryz.underlying79⟩ U)<|Zht 4 U (ym U)<|Zht 5 U (yn U)<|Zht 6 U (yf 1 U)<|Zht 7 U (yd 0 U U U)<|Zht 8 U (yge U U)<|Zht 9 U (ya U) ?_;refine ZHn<|Znx<|Zif U (fun h41=>?_) (fun h41=>?_);refine Zsr<|Zy U<|Znr<|Zr2<|Zr1 ?_;rotate_left;rotate_left
   ·have he:Cu n ways L l=200:=by unfold Cu;rw[hok,h2,if_neg (by simp),if_pos ⟨rfl,h41⟩]
    have hp:putL n ways L l=L:=if_neg (by rw[he];decide);rw[he,hp] at hS;refine Zfx [0,0,0,1] (hB.same hc) U<|Zre (.t U .n) hS [0] 1 U U U U
   ·have he:Cu n ways L l=0:=by unfold Cu;rw[hok,h2,if_neg (by simp),if_neg fun h=>h41 h.2]
    have hp:putL n ways L l=L++[l]:=by unfold putL;rw[if_pos he,if_pos h2]
    rw[he,hp] at hS;refine Zhf 7 [2] U U<|Zht 0 U (ym U)<|Zht 1 U (ym U)<|Zht 2 U (yn U)<|Zht 3 U (yd 1 U U hc)<|Zht 4 U (ydw 2 (m:=18) U U (Enc.len ..)) ?_;refine ZH1 5<|Zoe U (eb1 ML (by decide) U)<|fun B=>Zwh 2 U ?_;have hm:(ofs n L (si n l.num)).length+[l].length≤maxLen:=by show(ofs n L (si n l.num)).length+1≤maxLen;exact Nat.le_trans (Nat.succ_le_succ hlo) (by decide)
    refine ZH1 6<|Zoe U (Dp 1 0 ML U U U own.rd U U U (fun _ _=>U) (by simp;omega) hm)<|fun A' cap'=>Zwh 2 U<|ZHn<|Ztl U<|Ztv (yn U) ?_;obtain⟨cells',hput⟩:∃cells',put cells (si n l.num) (.slice A' (ofs n L (si n l.num)++[l]).length cap')=some cells':=⟨_,Dz _ _ _ (by omega)⟩
    refine Zte (es 3 U U U hput U)<|Ztw<|Ztn<|Zxn<|Zxs<|Zy U<|Znr ?_;rw[←F8] at hput⊢;refine Zfx [2,2,1,2] (hB (L++[l]) A' cap' cells' (fun j _ hne=>Fu L l hne) hput) U<|Zre (.t U .n) hS [0] 2 U U U U
  ·have h2:=hg.symm.trans (Jp hk hx hall);have he:Cu n ways L l=0:=by unfold Cu;rw[hok,h2];simp
   have hp:putL n ways L l=repl l L:=by unfold putL;rw[he,h2];simp
   have hs:=TQ (l:=l) hk hx hall;rw[he,hp] at hS;refine Zk (N7 b n g cap ways l.num L cells A h0 h64 hn hlo hc hcl) [0,1,1] U U<|Zq<|Zb 5 U<|Znq ?_;refine Zbl<|Zsr<|Zb 3 U<|Zn<|DF U (dT (by omega))<|Zhe 6 U<|Zht 0 U (ym U) ?_;refine Zht 1 U (yn U)<|Zht 2 U (yd 1 U U hc)<|Zht 3 U (ym U)<|Zht 4 U (ydw 3 (m:=18) U U (Enc.len ..)) ?_;rw[hf];refine Zht 5 U (yea 2 own.rd U U U (by first|assumption|omega) U Tryz.underlying79 U)<|ZHn<|Ztl U<|Zte (ese 2 _ U U U (by first|assumption|omega) U U (by kernel_rfl))<|Ztw<|Ztn<|Zxn<|Zxs<|Zy U<|Znl ?_;refine Zxr ?_;rw[hs,←Dy]
   have hlen:(ofs n (repl l L) (si n l.num)).length=(ofs n L (si n l.num)).length:=by rw[Dy,Fx]
   refine Zfx [0,0,0,1] (hB (repl l L) A cap cells (fun j _ hne=>D2 L l hne) (by rw[hlen];exact G3 hc)) U<|Zre (.t U .n) hS [0] 1 U U U U
end Go.Proofs.YtpfijldkkfiooaaGreatDoor
namespace Go.Proofs.YtpfijldkkfiooaaGreatDoor
open Go Go.RowKit
set_option linter.unusedVariables false
abbrev Gd:=List (Nat × Bool)
abbrev CE:=Nat × Gd × Value
def WD:Bool→Bool→Bool
 | true,b=>b
 | false,b => !b
def Vt (t:Nat) (b:Bool):Gd→Bool
 | []=>false
 | (s,c)::g=>(Nat.beq t s && WD b c) || Vt t b g
def TX:Gd→Gd→Bool
 | [],_=>true
 | (t,b)::ps,g=>Vt t b g && TX ps g
def HY (d:Nat):Gd→Bool
 | []=>false
 | (s,_)::g=>Nat.beq d s || HY d g
def sbT (g:Gd):List CE→Option Tb
 | []=>some []
 | (t,gx,v)::C=>match sbT g C with
  | some T=>match TX gx g with|true=>some ((t,v)::T)|false=>some T
  | none=>none
def rmv (d:Nat):List CE→Option (List CE)
 | []=>some []
 | (t,g,v)::C=>match rmv d C with
  | some R=>match Nat.beq t d with
   | true=>some R
   | false=>match HY d g with|true=>none|false=>some ((t,g,v)::R)
  | none=>none
def Si (d:Nat):Tb→Option Tb
 | []=>some []
 | (t,v)::T=>match Si d T with
  | some R=>match Nat.beq t d with|true=>some R|false=>some ((t,v)::R)
  | none=>none
def RC:Tb→Tb→Option Tb
 | [],T=>some T
 | p::A,T=>match RC A T with|some R=>some (p::R)|none=>none
def Py (s:Nat):List CE→Option Gd
 | []=>none
 | (t,g,v)::C=>match Nat.beq t s with
  | true=>match v with | .bool _=>some g|_=>none
  | false=>Py s C
def Xn (ops:Array Oper) (T:Tb) (C:List CE):Option (Nat × Bool)→Option Gd
 | none=>some []
 | some (j,b)=>match A9 ops j with
  | some s=>match Py s C with
   | some g=>some ((s,b)::g)
   | none=>match look T s with|some (.bool _)=>some [(s,b)]|_=>none
  | none=>none
def pkB (x y:Operand) (c bx b:Bool):Bool:=match x,y with
 | _,.const (.bool false)=>c && bx
 | .const (.bool true),_=>c || b
 | _,_=>bif c then bx else b
def pkO (x y:Operand) (c bx b:Bool):Option Value:=match x,y with
 | _,.const (.bool false)=>some (.bool (c && bx))
 | .const (.bool true),_=>some (.bool (c || b))
 | _,_=>some (.bool (bif c then bx else b))
theorem X6 (x y:Operand) (c bx b:Bool):pkO x y c bx b=some (.bool (pkB x y c bx b)):=by unfold pkO pkB;split<;>rfl
def evC (T0:Tb) (C:List CE) (L:List Ck) (hs:List Nat) (G:Gd):Op→Option (Value × List Nat × List Nat × List Nat × List PC)
 | .pick (.tmp tc) x y=>match sbT G C with
  | some T=>match look (T++T0) tc with
   | some (.bool cb)=>match sbT ((tc,true)::G) C,sbT ((tc,false)::G) C with
    | some T1,some T2=>match evT (T1++T0) x,evT (T2++T0) y with
     | some (.bool bx),some (.bool b)=>match pkO x y cb bx b with|some v=>some (v,hs,[],[],[])|none=>none
     | _,_=>none
    | _,_=>none
   | _=>none
  | none=>none
 | op=>match sbT G C with|some T=>vOp (T++T0) L hs op|none=>none
def LQ (ops:Array Oper) (L:List Ck):Nat→List Nat→Tb→List CE→List Nat→List Nat→List PC→List Oper→Option (List Oper × Tb × List Nat × List Nat × List PC)
 | 0,_,T,C,xs,ys,cs,l=>match sbT [] C with
  | some A=>match RC A T with|some R=>some (l,R,xs,ys,cs)|none=>none
  | none=>none
 | k+1,hs,T,C,xs,ys,cs,⟨some d,op,_,_,_,g⟩::l=>match Xn ops T C g with
  | some G=>match rmv d C,HY d G with
   | some R,false=>match evC T C L hs G op with
    | some (v,hs',x,y,c)=>match look T d with
     | none=>LQ ops L k hs' T ((d,G,v)::R) (x++xs) (y++ys) (c++cs) l
     | some _=>match Si d T with
      | some T'=>LQ ops L k hs' T' ((d,G,v)::R) (x++xs) (y++ys) (c++cs) l
      | none=>none
    | none=>none
   | _,_=>none
  | none=>none
 | _+1,_,_,_,_,_,_,_=>none
def D0 (a:Act) (g:Gd):Prop:=∀p∈g,a.tmps.getD p.1 undef = .bool p.2
structure FrC (N:Nat × List Deferred) (T:Tb) (C:List CE) (a:Act):Prop where
 fr:Fr N T a
 y:∀e∈C,D0 a e.2.1→a.tmps.getD e.1 undef=e.2.2
 n:∀e∈C,¬D0 a e.2.1→a.tmps.getD e.1 undef=undef
section
variable {P:Program} {r:Option Nat} {n:Nat} {N:Nat × List Deferred} {T T':Tb} {a:Act} {w e:World} {Q:Exit→Act→World→Prop} {ops:Array Oper} {rest l:List Oper} {d:Nat} {v:Value} {L S M:List Ck} {ty:TypeId} {pos:String} {af:Array Edge} {g:Option (Nat × Bool)} {dd:Option Nat} {op:Op} {C R:List CE} {G:Gd} {T0 T1:Tb}
theorem TL:∀{b c:Bool},WD b c=true→b=c
 | true,true,_=>rfl
 | false,false,_=>rfl
theorem PQ {t:Nat} {b:Bool}:∀{g:Gd},Vt t b g=true→(t,b)∈g
 | (s,c)::g,h=>by
  unfold Vt at h;rw[Bool.or_eq_true,Bool.and_eq_true] at h;rcases h with⟨h1,h2⟩|h
  ·rw[Nat.eq_of_beq_eq_true h1,TL h2];exact List.mem_cons_self
  ·exact List.mem_cons_of_mem _ (PQ h)
theorem Qb:∀{ps g:Gd},TX ps g=true→∀p∈ps,p∈g
 | [],_,_,p,hp=>by cases hp
 | (t,b)::ps,g,h,p,hp=>by
  unfold TX at h;rw[Bool.and_eq_true] at h;rcases List.mem_cons.1 hp with rfl|hp
  ·exact PQ h.1
  ·exact Qb h.2 p hp
theorem IU {d:Nat}:∀{g:Gd},HY d g=false→∀p∈g,p.1≠d
 | [],_,p,hp=>by cases hp
 | (s,b)::g,h,p,hp=>by
  unfold HY at h;rw[Bool.or_eq_false_iff] at h;rcases List.mem_cons.1 hp with rfl|hp
  ·intro e;rw[←e] at h;simp at h
  ·exact IU h.2 p hp
theorem LV {g:Gd}:∀{C:List CE} {T:Tb},sbT g C=some T→∀p∈T,∃gx,(p.1,gx,p.2)∈C∧TX gx g=true
 | [],T,h,p,hp=>by unfold sbT at h;cases h;cases hp
 | (t,gx,v)::C,T,h,p,hp=>by
  unfold sbT at h;split at h
  ·rename_i T0 h0;split at h
   ·rename_i hs;cases h;rcases List.mem_cons.1 hp with rfl|hp
    ·exact⟨gx,List.mem_cons_self,hs⟩
    ·obtain⟨g1,h1,h2⟩:=LV h0 p hp;exact⟨g1,List.mem_cons_of_mem _ h1,h2⟩
   ·cases h;obtain⟨g1,h1,h2⟩:=LV h0 p hp;exact⟨g1,List.mem_cons_of_mem _ h1,h2⟩
  ·cases h
theorem S0 {A B:Tb} {t:Nat} {v:Value} (h:look (A++B) t=some v):(t,v)∈A∨look B t=some v:=by
 induction A with
 | nil=>exact .inr h
 | cons p A ih=>
  obtain⟨k,u⟩:=p;rw[List.cons_append,Bo] at h;split at h
  ·rename_i hk;subst hk;cases h;exact .inl List.mem_cons_self
  ·exact(ih h).imp (List.mem_cons_of_mem _) id
theorem FrC.sub (fr:FrC N T0 C a) (hg:D0 a G) (h:sbT G C=some T):Fr N (T++T0) a:=⟨fr.fr.df,fr.fr.sz,fun t v hl=>by
 rcases S0 hl with hl|hl
 ·obtain⟨gx,h1,h2⟩:=LV h _ hl;exact fr.y _ h1 fun p hp=>hg p (Qb h2 p hp)
 ·exact fr.fr.get t v hl⟩
theorem O7:∀{A B R:Tb},RC A B=some R→R=A++B
 | [],B,R,h=>by unfold RC at h;cases h;rfl
 | p::A,B,R,h=>by
  unfold RC at h;split at h
  ·rename_i R0 h0;cases h;rw[O7 h0];rfl
  ·cases h
theorem Pq {d:Nat}:∀{T R:Tb},Si d T=some R→look R d=none∧∀t,t≠d→look R t=look T t
 | [],R,h=>by unfold Si at h;cases h;exact⟨rfl,fun _ _=>rfl⟩
 | (k,u)::T,R,h=>by
  unfold Si at h;split at h
  ·rename_i R0 h0;obtain⟨h1,h2⟩:=Pq h0;split at h
   ·rename_i hk;cases h;refine⟨h1,fun t ht=>?_⟩;rw[Bo,if_neg (by rw[Nat.eq_of_beq_eq_true hk];exact fun e=>ht e.symm),h2 t ht]
   ·rename_i hk;cases h;refine⟨?_,fun t ht=>?_⟩
    ·rw[Bo,if_neg (by intro e;rw[e] at hk;simp at hk),h1]
    ·rw[Bo,Bo,h2 t ht]
  ·cases h
theorem Fr.put_o (fr:Fr N T a) (hd:look T d=none) (u:Value):Fr N T (a.put (some d) u):=⟨fr.df,by simpa[Act.put] using fr.sz,fun t v hl=>by
 rw[BR (fun e=>by rw[e,hl] at hd;cases hd)]
 exact fr.get t v hl⟩
theorem LO {d:Nat}:∀{C R:List CE},rmv d C=some R→∀e∈R,e∈C∧e.1≠d∧HY d e.2.1=false
 | [],R,h,e,he=>by unfold rmv at h;cases h;cases he
 | (t,g,v)::C,R,h,e,he=>by
  unfold rmv at h;split at h
  ·rename_i R0 h0;split at h
   ·cases h;obtain⟨h1,h2⟩:=LO h0 e he;exact⟨List.mem_cons_of_mem _ h1,h2⟩
   ·rename_i ht;split at h
    ·cases h
    ·rename_i ha;cases h;rcases List.mem_cons.1 he with rfl|he
     ·exact⟨List.mem_cons_self,fun e=>by simp only at e;rw[e] at ht;simp at ht,ha⟩
     ·obtain⟨h1,h2⟩:=LO h0 e he;exact⟨List.mem_cons_of_mem _ h1,h2⟩
  ·cases h
theorem MS {s:Nat}:∀{C:List CE} {g:Gd},Py s C=some g→∃b,(s,g,Value.bool b)∈C
 | (t,g0,v)::C,g,h=>by
  unfold Py at h;split at h
  ·rename_i ht;split at h
   ·cases h;rw[Nat.eq_of_beq_eq_true ht];exact⟨_,List.mem_cons_self⟩
   ·cases h
  ·obtain⟨b,hb⟩:=MS h;exact⟨b,List.mem_cons_of_mem _ hb⟩
theorem FU {j s:Nat} {b:Bool} (hs:A9 ops j=some s) (h:a.tmps.getD s undef = .bool b) (c:Bool):Region.wanted ⟨dd,op,ty,pos,af,some (j,c)⟩ (yielded ops a.tmps)=(b == c):=by simp[Region.wanted,Gu hs h]
theorem Xo (fr:FrC N T0 C a) (h:Xn ops T0 C g=some G):(D0 a G∧Region.wanted ⟨dd,op,ty,pos,af,g⟩ (yielded ops a.tmps)=true)∨(¬D0 a G∧Region.wanted ⟨dd,op,ty,pos,af,g⟩ (yielded ops a.tmps)=false):=by
 unfold Xn at h;split at h
 ·cases h;exact .inl ⟨fun p hp=>(by cases hp),rfl⟩
 ·rename_i j b;split at h
  ·rename_i s hs;split at h
   ·rename_i gs hf;cases h;obtain⟨vb,hm⟩:=MS hf;by_cases hg:D0 a gs
    ·have hv:=fr.y _ hm hg;simp only at hv;by_cases hb:vb=b
     ·subst hb;refine .inl ⟨fun p hp=>?_,?_⟩
      ·rcases List.mem_cons.1 hp with rfl|hp
       ·exact hv
       ·exact hg p hp
      ·rw[FU hs hv];simp
     ·refine .inr ⟨fun hh=>hb ?_,?_⟩
      ·have h1:=hh _ List.mem_cons_self;rw[hv] at h1;simpa using h1
      ·rw[FU hs hv];simpa using hb
    ·have hv:=fr.n _ hm hg;simp only at hv;refine .inr ⟨fun hh=>hg fun p hp=>hh p (List.mem_cons_of_mem _ hp),?_⟩
     have:Fr N [(s,undef)] a:=⟨fr.fr.df,fr.fr.sz,fun t v hl=>by
      rw[Bo] at hl;split at hl
      ·rename_i hk;subst hk;cases hl;exact hv
      ·cases hl⟩
     exact this.unwant_u rfl hs (by rw[Bo,if_pos rfl])
   ·split at h
    ·rename_i vb hl;cases h;have hv:=fr.fr.get _ _ hl;by_cases hb:vb=b
     ·subst hb;refine .inl ⟨fun p hp=>?_,?_⟩
      ·rcases List.mem_cons.1 hp with rfl|hp
       ·exact hv
       ·cases hp
      ·rw[FU hs hv];simp
     ·refine .inr ⟨fun hh=>hb ?_,?_⟩
      ·have h1:=hh _ List.mem_cons_self;rw[hv] at h1;simpa using h1
      ·rw[FU hs hv];simpa using hb
    ·cases h
  ·cases h
theorem FM {u:Value} (hd:d<a.tmps.size) (hg:HY d G=false):D0 (a.put (some d) u) G↔D0 a G:=by
 constructor
 ·intro h p hp;have:=h p hp;rwa[BR (fun e=>IU hg p hp e.symm)] at this
 ·intro h p hp;rw[BR (fun e=>IU hg p hp e.symm)];exact h p hp
theorem FrC.put (fr:FrC N T0 C a) (hT:Fr N T1 (a.put (some d) v)) (hd:d<N.1) (hr:rmv d C=some R) (hg:HY d G=false) {u:Value} (hy:D0 a G→v=u) (hn:¬D0 a G→v=undef):FrC N T1 ((d,G,u)::R) (a.put (some d) v):=by
 have hs:d<a.tmps.size:=by rw[fr.fr.sz];exact hd
 refine⟨hT,fun e he h=>?_,fun e he h=>?_⟩
 ·rcases List.mem_cons.1 he with rfl|he
  ·rw[El hs];exact hy ((FM hs hg).1 h)
  ·obtain⟨h1,h2,h3⟩:=LO hr e he;rw[BR (fun e=>h2 e.symm)];exact fr.y e h1 ((FM hs h3).1 h)
 ·rcases List.mem_cons.1 he with rfl|he
  ·rw[El hs];exact hn fun h'=>h ((FM hs hg).2 h')
  ·obtain⟨h1,h2,h3⟩:=LO hr e he;rw[BR (fun e=>h2 e.symm)];exact fr.n e h1 fun h'=>h ((FM hs h3).2 h')
theorem Xx {hs hs' x y:List Nat} {c:List PC} (h:evC T0 C L hs G op=some (v,hs',x,y,c)):x.length=y.length∧Fq op=false:=by
 unfold evC at h;split at h
 ·refine⟨?_,rfl⟩
  repeat' split at h
  all_goals first|(cases h;done)|(simp only[Option.some.injEq,Prod.mk.injEq] at h;obtain⟨_,_,rfl,rfl,_⟩:=h;rfl)
 ·split at h
  ·exact⟨Ug h,Sg h⟩
  ·cases h
theorem aG {hs hs' x y:List Nat} {c:List PC} (fr:FrC N T0 C a) (hg:D0 a G) (hp:Hp e L w) (h:evC T0 C L hs G op=some (v,hs',x,y,c)) (hxy:x=y) (hc:c.all (·.ok P)=true):(execOp a.eval ⟨dd,op,ty,pos,af,g⟩).run P w = .ok (.value v) w:=by
 unfold evC at h;split at h
 ·rename_i tc x y;split at h
  ·rename_i T hT;have f0:=fr.sub hg hT;split at h
   ·rename_i cb hl;split at h
    ·rename_i T1 T2 h1 h2;split at h
     ·rename_i bx b hx hy;rw[X6] at h;cases h;have hv:a.eval (.tmp tc) = .bool cb:=f0.evT (x := .tmp tc) hl;cases cb with
      | true=>
       have f1:=fr.sub (G:=(tc,true)::G) (fun p hp=>by
        rcases List.mem_cons.1 hp with rfl|hp
        ·exact f0.get _ _ hl
        ·exact hg p hp) h1
       have he:pkB x y true bx b=bx:=by
        unfold pkB;split
        ·simp
        ·cases hx;rfl
        ·simp
       rw[he];exact NU rfl hv (f1.evT hx)
      | false=>
       have f1:=fr.sub (G:=(tc,false)::G) (fun p hp=>by
        rcases List.mem_cons.1 hp with rfl|hp
        ·exact f0.get _ _ hl
        ·exact hg p hp) h2
       have he:pkB x y false bx b=b:=by
        unfold pkB;split
        ·cases hy;rfl
        ·simp
        ·simp
       rw[he];exact NT rfl hv (f1.evT hy)
     ·cases h
    ·cases h
   ·cases h
  ·cases h
 ·split at h
  ·rename_i T hT;exact Uh h hxy hc a w (fr.sub hg hT) hp
  ·cases h
theorem VQ:∀(k:Nat) {hs xs ys xs' ys':List Nat} {cs cs':List PC} {T0:Tb} {C:List CE} {T':Tb} {l rest:List Oper},LQ ops L k hs T0 C xs ys cs l=some (rest,T',xs',ys',cs')→xs'=ys'→xs.length=ys.length→cs'.all (·.ok P)=true→dsV N.1 k l=true→ZL P r n ops Q rest N T' e L→(∀w,Hp e L w→Ok r Q→∀a,FrC N T0 C a→wpListIn (Wd r) n P ops Q l a w)∧xs=ys∧cs.all (·.ok P)=true:=by
 intro k;induction k with
 | zero=>
  intro hs xs ys xs' ys' cs cs' T0 C T' l rest h he hl hc _ hz;unfold LQ at h;split at h
  ·rename_i T hT;split at h
   ·rename_i R hR;cases h;refine⟨fun w hp ok a fr=>hz w hp ok a ?_,he,hc⟩;rw[O7 hR];exact fr.sub (G:=[]) (fun p hp=>(by cases hp)) hT
   ·cases h
  ·cases h
 | succ k ih=>
  intro hs xs ys xs' ys' cs cs' T0 C T' l rest h he hl hc hd hz
  match l with
  | []=>unfold LQ at h;cases h
  | ⟨none,op,ty,pos,af,g⟩::l=>unfold LQ at h;cases h
  | ⟨some d,op,ty,pos,af,g⟩::l=>
   unfold dsV at hd;simp only[Bool.and_eq_true] at hd;unfold LQ at h;split at h
   ·rename_i G hG;split at h
    ·rename_i R hR hat;split at h
     ·rename_i v hs' x y c hv;obtain⟨hlen,hdf⟩:=Xx hv;have hdN:d<N.1:=Nat.le_of_ble_eq_true hd.1
      have key:∀T1,(∀a v,FrC N T0 C a→Fr N T1 (a.put (some d) v))→LQ ops L k hs' T1 ((d,G,v)::R) (x++xs) (y++ys) (c++cs) l=some (rest,T',xs',ys',cs')→(∀w,Hp e L w→Ok r Q→∀a,FrC N T0 C a→wpListIn (Wd r) n P ops Q (⟨some d,op,ty,pos,af,g⟩::l) a w)∧xs=ys∧cs.all (·.ok P)=true:=by
       intro T1 hT1 h;obtain⟨hk,he2,hc2⟩:=ih h he (by simp[hl,hlen]) hc hd.2 hz;obtain⟨hx,hy⟩:=O8 hlen he2;rw[List.all_append,Bool.and_eq_true] at hc2;refine⟨fun w hp ok a fr=>?_,hy,hc2.2⟩;unfold wpListIn;rcases Xo (dd:=some d) (op:=op) (ty:=ty) (pos:=pos) (af:=af) fr hG with⟨hg,hw⟩|⟨hg,hw⟩
       ·rw[if_pos hw];exact⟨fun _ _=>trivial,Gs hdf (aG fr hg hp hv hx hc2.1) (hk w hp ok _ (fr.put (hT1 a _ fr) hdN hR hat (fun _=>rfl) fun h=>absurd hg h))⟩
       ·rw[if_neg (by rw[hw];exact Bool.false_ne_true)];exact⟨fun _ _=>trivial,hk w hp ok _ (fr.put (hT1 a _ fr) hdN hR hat (fun h=>absurd h hg) fun _=>rfl)⟩
      split at h
      ·rename_i hl0;exact key _ (fun a v fr=>fr.fr.put_o hl0 v) h
      ·split at h
       ·rename_i T1 hT1;obtain⟨h1,h2⟩:=Pq hT1;exact key _ (fun a v fr=>Fr.put_o ⟨fr.fr.df,fr.fr.sz,fun t u ht=>fr.fr.get t u (by rw[←h2 t (fun e=>by rw[e,h1] at ht;cases ht)];exact ht)⟩ h1 v) h
       ·cases h
     ·cases h
    ·cases h
   ·cases h
theorem Zc (k:Nat) (hs:List Nat) {xs ys:List Nat} {cs:List PC} (h:LQ ops L k hs T [] [] [] [] l=some (rest,T',xs,ys,cs)) (hb:xs=ys) (z:ZL P r n ops Q rest N T' e L) (hd:dsV N.1 k l=true:=by rfl) (hc:cs.all (·.ok P)=true:=by kernel_rfl):ZL P r n ops Q l N T e L:=fun w hp ok a fr=>(VQ k h hb rfl hc hd z).1 w hp ok a ⟨fr,fun e he=>(by cases he),fun e he=>(by cases he)⟩
end
end Go.Proofs.YtpfijldkkfiooaaGreatDoor
namespace Go.Proofs.YtpfijldkkfiooaaGreatDoor
open Go
set_option maxRecDepth 4000
def Bx (b:Nat) (l:List Int):HP:=fun h=>0<l.length∧∃g o cap,Sep [.blk b 149 [.slice (some ⟨g,o,none⟩) l.length cap],.hp (own u8E (some ⟨g,o,none⟩) cap l)] h
theorem Ju {b:Nat} {l:List Int}:Op_ (Bx b l) fun K=>0<l.length→∀g o cap,l.length≤cap→K [.blk b 149 [.slice (some ⟨g,o,none⟩) l.length cap],.hp (own u8E (some ⟨g,o,none⟩) cap l)] := .mk fun G k h hh=>by obtain⟨h0,g,o,cap,hs⟩:=hh;refine⟨_,k h0 g o cap ?_,hs⟩;obtain⟨_,h2,_,e2,_,_,h3,_,_,_,_,hp,_⟩:=hs;exact hp.1
theorem Fp {b g o cap:Nat} {l:List Int} (h0:0<l.length):∀h,Sep [.blk b 149 [.slice (some ⟨g,o,none⟩) l.length cap],.hp (own u8E (some ⟨g,o,none⟩) cap l)] h→Bx b l h:=fun _ hs=>⟨h0,g,o,cap,hs⟩
theorem HF {b g o cap n:Nat} {l:List Int} (h0:0<l.length) (hn:n=l.length):∀h,Sep [.blk b 149 [.slice (some ⟨g,o,none⟩) n cap],.hp (own u8E (some ⟨g,o,none⟩) cap l)] h→Bx b l h:=fun _ hs=>⟨h0,g,o,cap,hn ▸ hs⟩
theorem c57 (b:Nat) (l:List Int):Sp Tryz.prog 57 [pt b] [.hp (Bx b l)] fun K=>K (.returned (.bool false)) [.hp (Bx b l)]:=by refine Zen Tryz.func57 U U U fun e X Φ hS=>Zsr<|Zy U<|Zns<|Zm U<|Zv (D6 U U U)<|Zm U<|Zg U U ?_;refine Za 3 [0] U U<|Zg U U ?_;refine Zol 0 Ju U<|fun h0 g o cap hcp=>Zv (yd 0 U U U)<|Zg U U<|Zv (Ge ⟨_,Tryz.underlying23⟩ U U)<|Zb 2 U<|Znr ?_;refine Zfx [0,0] (Fp h0) U<|Zre (.t U .n) hS [0] 0 U U U U
theorem c58 (c:Ck) (g o cap:Nat) (l:List Int) (hR:Rd u8E c (some ⟨g,o,none⟩) cap l) (h0:0<l.length) (hl:l.length≤1048576):Sp Tryz.prog 58 [.slice (some ⟨g,o,none⟩) l.length cap] [c] fun K=>∀g' o' cap',K (.returned (.slice (some ⟨g',o',none⟩) l.length cap')) [.hp (own u8E (some ⟨g',o',none⟩) cap' l),c]:=by
 refine Zen Tryz.func58 U U U fun e X Φ hS=>Zsr<|Zy U<|Aj<|Zm U<|Zv (Ge ⟨_,Tryz.underlying23⟩ U U)<|Znl ?_;refine Znx<|Zcf U<|Zks ?_;refine Ze (eb0 Sl)<|fun A=>Zw<|Zm U ?_;have hm:([]:List Int).length+l.length≤maxLen:=CY (by simp;omega);refine Ze (Dp 0 1 Sl U U U hR U U U (fun _ _=>U) (by simp;omega) hm)<|fun A' cap'=>Zw<|Zy U<|Znr ?_;refine Zox 0 (JM h0) U<|fun g' o' e1=>?_;subst e1;refine Zre (.t U .n) (hS g' o' cap') [0,0] 0 U U U U
theorem c21 (b:Nat) (l:List Int) (hl:l.length≤1048576:=by assumption):Sp Tryz.prog 21 [pt b] [.hp (Bx b l)] fun K=>∀g' o' cap',K (.returned (.slice (some ⟨g',o',none⟩) l.length cap')) [.hp (Bx b l),.hp (own u8E (some ⟨g',o',none⟩) cap' l)]:=by
 refine Zen Tryz.func21 U U U fun e X Φ hS=>Zsr<|Zy U<|Aj<|Zm U<|Zk (c57 ..) [0] U U<|Zq ?_;refine Zn<|Zcf U<|Zks<|Za 3 [0] U U ?_;refine Zol 0 Ju U<|fun h0 g o cap hcp=>Zv (yd 0 U U U) ?_;refine Zk (c58 _ g o cap l own.rd h0 hl) [1] U U<|fun g'=>fun o'=>fun cap'=>Zq<|Zy U<|Znr ?_;refine Zfx [2,1] (Fp h0) U ?_;refine Zre (.t U .n) (hS g' o' cap') [0,0] 0 U U U U
theorem c74 (b:Nat) (l:List Int):Sp Tryz.prog 74 [pt b] [.hp (Bx b l)] fun K=>K (.returned (.int .i64 (l.length:Int))) [.hp (Bx b l)]:=by refine Zen Tryz.func74 U U U fun e X Φ hS=>Zsr<|Zy U<|Aj<|Zm U<|Zv (D6 U U U)<|Znl ?_;refine Znx<|Zcf U<|Zks<|Za 3 [0] U U ?_;refine Zol 0 Ju U<|fun h0 g o cap hcp=>Zv (yd 0 U U U)<|Zv (Aw ⟨_,Tryz.underlying23⟩ U)<|Zy U<|Znr ?_;refine Zfx [0,0] (Fp h0) U<|Zre (.t U .n) hS [0] 0 U U U U
theorem c63 (b:Nat) (l:List Int) (h0:0<l.length:=by assumption) (hl:l.length≤1048576:=by assumption):Sp Tryz.prog 63 [pt b] [.hp (Bx b l)] fun K=>∀b',K (.returned (pt b')) [.hp (Bx b l),.hp (Bx b' l)]:=by refine Zen Tryz.func63 U U U fun e X Φ hS=>Zsr<|Zy U<|Aj<|Zm U<|Zk (c57 ..) [0] U U<|Zq ?_;refine Zn<|Zcf U<|Zks<|Zm U<|Zk (c21 ..) [0] U U<|fun g'=>fun o'=>?_;refine fun cap'=>Zq<|Zv (yb aY rfl)<|Ze (ebx rfl) fun b8=>Zw<|Zv (ya rfl)<|Znl<|Znx<|Zrt ?_;refine Zfx [0,1] (Fp (b:=b8) h0) U ?_;refine Zre (.t U .n) (hS b8) [1,0] 0 U U U U
def szF (n:Int):Bool:=decide (n<16) || decide (n>4096) || decide (IntKind.i64.wrap (BitVec.ofInt 64 n &&& BitVec.ofInt 64 (n-1)).toNat≠0)
theorem c70 (n:Nat):Sp Tryz.prog 70 [.int .i64 (n:Int)] [] fun K=>(szF n=true→K (.returned (.tuple #[.pointer none,.int .i64 2])) [])∧(szF n=false→∀b,K (.returned (.tuple #[pt b,.int .i64 0])) [.hp (Bx b (List.replicate n 0))]):=by
 refine Zen Tryz.func70 U U U fun e X Φ hS=>Zsr<|Zb 2 U<|Aj<|Zb 2 U ?_;refine Zm U<|Zgs U U (fun h6=>?_) (fun h6=>?_);refine Zu' U U (dT h6) U<|Zu' U U (dT h6) U<|Zv (Ax U (dT h6) U)<|Zb 7 U ?_;refine Zn<|Zct U<|Zsr<|Zb 2 U<|Znr<|Zr1 ?_;rotate_left;refine Zg' U U (dF h6)<|Zm U<|Zg' U U (dF h6)<|Zv (ygt U U)<|Zv (Ao U (dF h6) U)<|Zm U<|Zgs U U (fun h10=>?_) (fun h10=>?_);refine Zu' U U (dT h10) U<|Zu' U U (dT h10) U<|Zu' U U (dT h10) U<|Zu' U U (dT h10) U<|Zu' U U (dT h10) U<|Zv (Ax U (dT h10) U)<|Zn<|Zct U<|Zsr ?_;refine Zb 2 U<|Znr<|Zr1 ?_;rotate_left
 refine Zg' U U (dF h10)<|Zm U<|Zg' U U (dF h10)<|Zm U<|Zg' U U (dF h10)<|Zv (Dh U U (Ar U (by omega)))<|Zg' U U (dF h10)<|Zv (Fc U U U)<|Zg' U U (dF h10)<|Zv (yne U U) ?_;refine Zv (Ao U (dF h10) U)<|Zn<|Zif U (fun h16=>?_) (fun h16=>?_);refine Zsr<|Zb 2 U<|Znr<|Zr1 ?_;rotate_left;refine Zks<|Zm U ?_;rotate_left
 ·refine Zre (.t U (.t U .n)) (hS.1 (by simp[szF,h6])) [] 0 U U U U
 ·refine Zre (.t U (.t U .n)) (hS.1 (by simp[szF,h10])) [] 0 U U U U
 ·have hz:szF n=true:=by unfold szF;rw[dT (show IntKind.i64.wrap (BitVec.ofInt 64 (n:Int) &&& BitVec.ofInt 64 ((n:Int)-1)).toNat≠0 from h16),Bool.or_true]
  refine Zre (.t U (.t U .n)) (hS.1 hz) [] 0 U U U U
 ·have hz:szF n=false:=by unfold szF;rw[dF h6,dF h10];exact dF h16
  refine Ze (iX Sl U U (by omega) (CY (by omega)))<|fun A=>Zw<|Zv (yb aY U)<|Ze (ebx U) fun b20=>Zw<|Zb 2 U<|Znr ?_;have h0:0<(List.replicate n (0:Int)).length:=by simp;omega
  refine Zox 1 (JM h0) U<|fun g' o' e1=>?_;subst e1;refine Zfx [1,0] (HF (b:=b20) h0 (by simp)) U ?_;refine Zre (.t U (.t U .n)) (hS.2 hz b20) [0] 0 U U U U
theorem c31 (c:Ck) (A:Option Addr) (cap:Nat) (l:List Int) (hR:Rd u8E c A cap l):Sp Tryz.prog 31 [.slice A l.length cap] [c] fun K=>(szF l.length=true→K (.returned (.tuple #[.pointer none,.int .i64 2])) [c])∧(szF l.length=false→∀b,K (.returned (.tuple #[pt b,.int .i64 0])) [.hp (Bx b l),c]):=by
 refine Zen Tryz.func31 U U U fun e X Φ hS=>Zsr<|Zb 2 U<|Zns<|Zm U<|Zv (Aw ⟨_,Tryz.underlying23⟩ U)<|Zk (c70 ..) [] U U ?_;refine⟨?_,?_⟩;refine fun a=>Zq<|Zv (ym rfl)<|Zv (yx rfl rfl)<|Zv (yx rfl rfl)<|Zv (ya rfl)<|Zv (ya rfl)<|Znl<|Znx<|Zsq ?_;refine Zsr<|Zb 2 U<|Zn<|Zct U<|Zsr<|Zb 3 U ?_;refine Znr<|Zr1 ?_;rotate_left;refine fun a=>fun b=>Zq<|Zv (ym rfl)<|Zv (yx rfl rfl)<|Zv (yx rfl rfl)<|Zv (ya rfl)<|Zv (ya rfl)<|Znl<|Znx ?_;refine Zsq<|Zsr<|Zb 2 U<|Zn<|Zcf U<|Zks ?_;refine Za 3 [0] U U ?_;rotate_left
 ·refine Zre (.t U (.t U .n)) (hS.1 a) [0] 0 U U U U
 ·refine Zol 0 Ju U<|fun h0 g o cap' hcp=>Zv (yd 0 U U U)<|Zm U ?_;have hl:0<l.length:=by simpa using h0
  refine Ze (aD 1 2 0 (l2:=l) (by simp) Tryz.underlying23 U U U hR U U (by simp) U hl (by simp) (fun _ _ h=>h))<|Zw<|Zns<|Zb 3 U<|Znr ?_;refine Zfx [0,0] (HF (b:=b) hl (by simp)) U ?_;refine Zre (.t U (.t U .n)) (hS.2 a b) [0,0] 0 U U U U
theorem WB {n:Nat} (h:n≤1048576):IntKind.i64.wrap ((n:Int).tdiv 16)=((n/16:Nat):Int):=by rw[Int.tdiv_eq_ediv_of_nonneg (by omega)];exact Ar (by omega) (by omega)
theorem Yb {n:Nat} (h:n≤1048576):IntKind.u32.wrap (IntKind.i64.wrap ((n:Int).tdiv 16))=((n/16:Nat):Int):=by rw[WB h];exact F3 rfl (by omega)
theorem Y3 (b:Nat) (l l2:List Int) (k f:Nat) (p:Value) (Cp Cp':Ck) (hl:l.length≤1048576) (hk:k<4294967296) (h2:k<l.length/16→l2.length=l.length) (hok:Bq Tryz.prog f=true) (hc:k<l.length/16→∀g o cap,Sp Tryz.prog f [.slice (CQ (some ⟨g,o,none⟩) (k*16+16) (k*16) 1) 16 16,p] [.hp (own u8E (some ⟨g,o,none⟩) cap l),Cp] fun K=>K (.returned (.tuple #[])) [.hp (own u8E (some ⟨g,o,none⟩) cap l2),Cp']) :
  Sp Tryz.prog 104 [pt b,.int .u32 (k:Int),.func (.func f) #[] #[p]] [.hp (Bx b l),Cp] fun K=>(k<l.length/16→K (.returned (.int .i64 0)) [.hp (Bx b l2),Cp'])∧(l.length/16≤k→K (.returned (.int .i64 4)) [.hp (Bx b l),Cp]):=by
 have hq:=Yb hl;refine Zen Tryz.func104 U U U fun e X Φ hS=>Zsr<|Zy U<|Znq<|Zbl<|Zsr<|Zm U<|Zk (c57 ..) [0] U U ?_;refine Zq<|Zy U<|Zn<|Zcf U<|Zsr<|Za 4 [0] U U ?_;refine Zol 0 Ju U<|fun h0 g o cap hcp=>Zv (yd 0 U U U)<|Zv (Aw ⟨_,Tryz.underlying23⟩ U)<|Zv (HV U U (by decide) U)<|Zv (ycv Tryz.underlying3 Tryz.underlying40 U U)<|Zb 2 U<|Zn<|Zif U (fun h11=>?_) (fun h11=>?_);refine Zsr<|Zy U<|Znr<|Zr2<|Zr1 ?_;rotate_left;refine Zsk<|Zxn<|Zxs<|Zm U<|Zv (ycv Tryz.underlying40 Tryz.underlying3 U (Ar U (by omega)))<|Zv (AD U U (Ar U (by omega)))<|Zy U<|Zn ?_
 refine Zsr<|Za 7 [0,0] U U<|Zv (Ac U U (Ar U (by omega)))<|Zm U ?_;refine Zv (Ac U U (Ar U (by omega))) ?_;rotate_left
 ·rw[hq] at h11;refine Zfx [0,0] (Fp h0) U ?_;refine Zre (.t U .n) (hS.2 (by omega)) [0,0] 0 U U U U
 ·rw[hq] at h11;have hlt:k<l.length/16:=by omega
  refine Zv (YP (i:=k*16) (j:=k*16+16) (m:=k*16+16) 1 Tryz.underlying23 U U U U (by omega) (by omega) (by omega) (n1:=16) (c1:=16) (by omega) (by omega)) ?_;refine Zkv (hc hlt g o cap) [1,1] U U U U<|Zq<|Zns<|Zy U<|Znr ?_;refine Zfx [2,0] (HF (b:=b) (l:=l2) (by have:=h2 hlt;omega) (h2 hlt).symm) U ?_;refine Zre (.t U .n) (hS.1 hlt) [0,0] 0 U U U U
def Di (l:List Int) (k:Nat):List Int:=(l.take (k*16+16)).drop (k*16)
def setF (l:List Int) (k:Nat) (bs:List Int):List Int:=l.take (k*16)++bs++l.drop (k*16+bs.length)
theorem eD (b1:Nat) (bs:List Int) (hb:bs.length=16) (A:Option Addr) (cap k:Nat) (l:List Int) (hk:k<l.length/16):Sp Tryz.prog 105 [.slice (CQ A (k*16+16) (k*16) 1) 16 16,pt b1] [.hp (own u8E A cap l),.blk b1 115 (bs.map (Value.int .u8))] fun K=>K (.returned (.tuple #[])) [.hp (own u8E A cap (setF l k bs)),.blk b1 115 (bs.map (Value.int .u8))]:=by
 have hR:=Rd.arr (E:=u8E) (b:=b1) (tb:=115) (Fk (TT:=5) (kk := .u8) bs) (CY (by omega));refine Zen Tryz.func105 U U U fun e X Φ hS=>Zrg<|Zm U<|Zv (dM Tryz.underlying115 U) ?_;refine Ze (aD 0 1 (k*16) U Tryz.underlying23 U U U hR U U hb.symm hb.symm (by omega) (by omega) (U6 (by omega)))<|Zw<|Znl<|Zee<|Zre .n hS [0,0] 0 U U U U
theorem JA {l:List Int} {k:Nat} (h:k<l.length/16):(Di l k).length=16:=by unfold Di;simp;omega
theorem LW {l bs:List Int} {k:Nat} (h:k<l.length/16) (hb:bs.length=16):(setF l k bs).length=l.length:=by unfold setF;simp;omega
theorem iC (b1:Nat) (cs:List Value) (hc:cs.length=16) (A:Option Addr) (cap k:Nat) (l:List Int) (hk:k<l.length/16):Sp Tryz.prog 302 [.slice (CQ A (k*16+16) (k*16) 1) 16 16,pt b1] [.hp (own u8E A cap l),.blk b1 115 cs] fun K=>K (.returned (.tuple #[])) [.hp (own u8E A cap l),.blk b1 115 ((Di l k).map (Value.int .u8))]:=by
 have hR:=Rd.cut (i:=k*16) (j:=k*16+16) (own.rd (E:=u8E) (A:=A) (cap:=cap) (l:=l)) (by omega) (by omega);have hl:=JA hk;refine Zen Tryz.func302 U U U fun e X Φ hS=>Zrg<|Zv (dM Tryz.underlying115 U)<|Zm U ?_;refine Ze (iR 1 0 Tryz.underlying23 U U U hR U U hl.symm hl.symm (hc.trans hl.symm) (by show 0<(Di l k).length;omega))<|Zw<|Znl<|Zee<|Zre .n hS [0,0] 0 U U U U
theorem c56 (b k:Nat) (l bs:List Int) (hb:bs.length=16) (hl:l.length≤1048576) (hk:k<4294967296):Sp Tryz.prog 56 [pt b,.int .u32 (k:Int),.agg (bs.map (Value.int .u8)).toArray] [.hp (Bx b l)] fun K=>(k<l.length/16→K (.returned (.int .i64 0)) [.hp (Bx b (setF l k bs))])∧(l.length/16≤k→K (.returned (.int .i64 4)) [.hp (Bx b l)]):=by
 refine Zen Tryz.func56 U U U fun e X Φ hS=>Zsr<|Ze (ebx U) fun b5=>Zw<|Zy U<|Zns<|Zb 2 U<|Zv (yfn U U) ?_;refine Zk (Y3 b l (setF l k bs) k 105 (pt b5) (.blk b5 115 (bs.map (Value.int .u8))) (.blk b5 115 (bs.map (Value.int .u8))) hl hk (fun h=>LW h hb) (by kernel_rfl) (fun h g o cap=>eD b5 bs hb _ cap k l h)) [1,0] U U<|⟨?_,?_⟩
 refine fun a=>Zq<|Zv (ya rfl)<|Znl<|Znx<|Zrt ?_;rotate_left;refine fun a=>Zq<|Zv (ya rfl)<|Znl<|Znx<|Zrt ?_;rotate_left
 ·refine Zre (.t U .n) (hS.1 a) [0] 1 U U U U
 ·refine Zre (.t U .n) (hS.2 a) [0] 1 U U U U
theorem gL (b k:Nat) (l:List Int) (hl:l.length≤1048576) (hk:k<4294967296):Sp Tryz.prog 258 [pt b,.int .u32 (k:Int)] [.hp (Bx b l)] fun K=>(k<l.length/16→K (.returned (.tuple #[.agg ((Di l k).map (Value.int .u8)).toArray,.int .i64 0])) [.hp (Bx b l)])∧(l.length/16≤k→K (.returned (.tuple #[.agg ((List.replicate 16 0).map (Value.int .u8)).toArray,.int .i64 4])) [.hp (Bx b l)]):=by
 have hll:=@JA l k;refine Zen Tryz.func258 U U U fun e X Φ hS=>Zsr<|Ze (eal dR) fun b4=>Zw<|Zy U<|Zns<|Ze (eal dR) fun b6=>Zw<|Zn ?_;refine Zsr<|Zb 2 U<|Zv (yfn U U) ?_;refine Zk (Y3 b l l k 302 (pt b6) (.blk b6 115 (List.replicate 16 (Value.int .u8 0))) (.blk b6 115 ((Di l k).map (Value.int .u8))) hl hk (fun _=>U) (by kernel_rfl) (fun h g o cap=>iC b6 (List.replicate 16 (Value.int .u8 0)) U _ cap k l h)) [2,0] U U<|⟨?_,?_⟩
 refine fun a=>Zq<|Zv (ya rfl)<|Znl<|Znx<|Zsr<|Zv (ydw 1 (m:=16) rfl rfl (by simp[*]))<|Zv (ym rfl)<|Ze (esw 2 (m:=16) rfl rfl rfl rfl rfl (by simp[*]) (HX _ _))<|Zw0<|Zv (ya rfl) ?_;refine Znr ?_;rotate_left;refine fun a=>Zq<|Zv (ya rfl)<|Znl<|Znx<|Zsr<|Zv (ydw 1 (m:=16) rfl rfl rfl)<|Zv (ym rfl)<|Ze (esw 2 (m:=16) rfl rfl rfl rfl rfl rfl rfl)<|Zw0<|Zv (ya rfl) ?_;refine Znr ?_;rotate_left
 ·refine Zre (.wh 2 (m:=16) U U (by simp[*]) (.t U .n)) (hS.1 a) [0] 2 U U U U
 ·refine Zre (.wh 2 (m:=16) U U U (.t U .n)) (hS.2 a) [0] 2 U U U U
def wv (a b:Bool):Value := .agg #[.bool a,.bool b]
def NJ:List (Int × Value):=[(10,wv false true),(9,wv false true),(8,wv false true),(7,wv false false),(6,wv false false),(5,wv false false),(4,wv false false),(13,wv true false),(12,wv true false),(11,wv true true),(3,wv true true),(2,wv true false),(1,wv true false)]
theorem US:Sp Tryz.prog 225 [] [] fun K=>∀r,K (.returned (.map (some r))) [F1 .i64 r NJ]:=by
 refine Zen Tryz.func225 U U U fun e X Φ hS=>Zsr<|Zy U<|Zns<|Ze (emk .i64) fun r1=>Zw<|Zv (yb HG U)<|Ze (ein 0 U U U U U U Tryz.underlying342 Tryz.underlying114)<|Zw0<|Zv (yb HG U) ?_
 refine Ze (ein 0 U U U U U U Tryz.underlying342 Tryz.underlying114)<|Zw0<|Zv (yb HG U)<|Ze (ein 0 U U U U U U Tryz.underlying342 Tryz.underlying114)<|Zw0<|Zv (yb HG U)<|Ze (ein 0 U U U U U U Tryz.underlying342 Tryz.underlying114)<|Zw0<|Zv (yb HG U)<|Ze (ein 0 U U U U U U Tryz.underlying342 Tryz.underlying114)<|Zw0<|Zv (yb HG U)<|Ze (ein 0 U U U U U U Tryz.underlying342 Tryz.underlying114)<|Zw0<|Zv (yb HG U) ?_
 refine Ze (ein 0 U U U U U U Tryz.underlying342 Tryz.underlying114)<|Zw0<|Zv (yb HG U)<|Ze (ein 0 U U U U U U Tryz.underlying342 Tryz.underlying114)<|Zw0<|Zv (yb HG U)<|Ze (ein 0 U U U U U U Tryz.underlying342 Tryz.underlying114)<|Zw0<|Zv (yb HG U)<|Ze (ein 0 U U U U U U Tryz.underlying342 Tryz.underlying114)<|Zw0<|Zv (yb HG U)<|Ze (ein 0 U U U U U U Tryz.underlying342 Tryz.underlying114)<|Zw0<|Zv (yb HG U) ?_;refine Ze (ein 0 U U U U U U Tryz.underlying342 Tryz.underlying114)<|Zw0<|Zv (yb HG U)<|Ze (ein 0 U U U U U U Tryz.underlying342 Tryz.underlying114)<|Zw0<|Zb 2 U<|Znr ?_
 refine Zre (.t U .n) (hS r1) [0] 0 U U U U
theorem V6 (k:Int):lk k NJ=if isK k then some (wv (CH k) (Cb k)) else none:=by
 by_cases h:k=1∨k=2∨k=3∨k=4∨k=5∨k=6∨k=7∨k=8∨k=9∨k=10∨k=11∨k=12∨k=13
 ·rcases h with rfl|rfl|rfl|rfl|rfl|rfl|rfl|rfl|rfl|rfl|rfl|rfl|rfl<;>rfl
 ·have e1:isK k=false:=by simp[isK];omega
  rw[e1];have hn:∀c:Int,c=1∨c=2∨c=3∨c=4∨c=5∨c=6∨c=7∨c=8∨c=9∨c=10∨c=11∨c=12∨c=13→(k == c)=false:=by intro c hc;simp;omega
  simp[NJ,lk,hn]
theorem Xj (m:Msg):chk m=(if isK m.kind=false then 2 else if CH m.kind=true then(if m.dst≠4∨m.src<0∨4≤m.src∨(Cb m.kind=false∧m.bs≠AE) then 2 else 0) else(if m.src≠4∨m.dst<0∨4≤m.dst∨(Cb m.kind=false∧m.bs≠AE) then 2 else 0)):=by
 unfold chk Cd;rw[Vo];cases hh:CH m.kind with
 | true=>
  have hc:=M5 _ hh;simp only[hc,B2,bs0];cases Cb m.kind<;>simp<;>grind
 | false=>
  cases hc:Ei m.kind with
  | true=>
   simp only[B2,bs0];cases Cb m.kind<;>simp<;>grind
  | false=>simp
theorem W5 (m:Msg):Sp Tryz.prog 190 [.agg (Al.arr m)] [] fun K=>K (.returned (.int .i64 (chk m))) []:=by
 have hlk:=V6 m.kind;rw[Xj];cases hk:isK m.kind with
 | false=>
  rw[hk] at hlk;have hl:lk m.kind NJ=none:=hlk;refine Zen Tryz.func190 U U U fun e X Φ hS=>?_;refine Zsr<|Ze (A8 U) fun b1=>Zw<|Zy U<|Zn ?_;refine Zjq (ι:=Nat) (fun b3=>[(1,pt b1),(4,.bool false)]) (fun b3=>[.blk b3 340 [.bool false,.bool false],.blk b1 117 (Al.cells m)]) X ?_ fun b3=>?_;rotate_left;refine Zsr<|Za 3 [2,1] U U<|Znq<|Zbl<|Zsq<|Zbl ?_;refine Zsq<|Zbl<|Zsq<|Zbl<|Zsq<|Zsq<|Zsr<|Zb 3 U ?_;refine Zn<|Zct U<|Zex<|Zxt<|Zxt<|Zxx<|Zxq<|Zsr ?_;refine Zy U<|Znr<|Zr1<|Zr2<|Zr1<|Zr2<|Zr1<|Zr2 ?_;refine Zr1<|Zre (.t U .n) hS [] 2 U U U U
  ·refine Zhd [] U U<|Zht 1 U (yf 0 U)<|Zht 2 U (yd 0 U U U)<|ZH2 0 7 (Zok (US ..) [] U U U ?_) (Zoe U (eal Rk) fun b3=>Zwh 1 U ?_);refine fun r=>Zqh 1 rfl<|Zh2 3 7 (by kernel_rfl) (Zov rfl (Ix 0 hl rfl rfl rfl Tryz.underlying342 Tryz.underlying114 K5) ?_) (Zoe rfl (eal Rk) fun b3=>Zwh 2 rfl ?_);refine Zht 4 U (ym U)<|Zht 5 U (yx U U)<|Zht 6 U (yx U U)<|ZH1 7<|Zoe U (eal Rk) fun b3=>Zwh 2 U<|ZH1 8<|Zoe U (esw 0 (m:=2) U U U U U U U)<|Ay 2 U<|Zht 9 U (ya U)<|ZHn ?_;rotate_left
   refine ZH1 3<|Zov U (Ix 1 hl U U U Tryz.underlying342 Tryz.underlying114 K5)<|Zht 4 U (ym U)<|Zht 5 U (yx U U)<|Zht 6 U (yx U U)<|ZH1 8<|Zoe U (esw 0 (m:=2) U U U U U U U)<|Ay 2 U<|Zht 9 U (ya U)<|ZHn ?_;rotate_left;refine ZH1 0<|Zok (US ..) [] U U U<|fun r=>Zqh 2 U<|ZH1 3<|Zov U (Ix 0 hl U U U Tryz.underlying342 Tryz.underlying114 K5)<|Zht 4 U (ym U)<|Zht 5 U (yx U U)<|Zht 6 U (yx U U)<|ZH1 8<|Zoe U (esw 1 (m:=2) U U U U U U U)<|Ay 2 U<|Zht 9 U (ya U)<|ZHn ?_;rotate_left
   ·refine Zjr b3 ⟨U,U,trivial⟩ [0,1] 1 U U
   ·refine Zjr b3 ⟨U,U,trivial⟩ [0,1] 1 U U
   ·refine Zjr b3 ⟨U,U,trivial⟩ [1,1] 1 U U
 | true=>
  rw[hk] at hlk;have hl:lk m.kind NJ=some (wv (CH m.kind) (Cb m.kind)):=hlk;refine Zen Tryz.func190 U U U fun e X Φ hS=>?_;refine Zsr<|Ze (A8 U) fun b1=>Zw<|Zy U<|Zn ?_;refine Zjq (ι:=Nat) (fun b3=>[(1,pt b1),(4,.bool true),(3,pt b3)]) (fun b3=>[.blk b3 340 [.bool (CH m.kind),.bool (Cb m.kind)],.blk b1 117 (Al.cells m)]) X ?_ fun b3=>?_;rotate_left;refine Zsr<|Za 3 [2,1] U U<|Znq<|Zbl<|Zsq<|Zbl ?_;refine Zsq<|Zbl<|Zsq<|Zbl<|Zsq<|Zsq<|Zsr<|Zb 3 U ?_;refine Zn<|Zcf U<|Zks<|Za 3 [0,0] U U<|Znl ?_;refine Znx<|Zib U (fun h18=>?_) (fun h18=>?_)
  refine Zex<|Zxt<|Zxb U<|Zxt<|Zxx<|Zxq<|Zsr<|Za 2 [2,1] U U ?_;refine Zv (yne U U)<|Zn<|Zif U (fun h23=>?_) (fun h23=>?_);refine Zsr<|Zy U<|Znr<|Zr1<|Zr2<|Zr1<|Zr2<|Zr1 ?_;refine Zre (.t U .n) hS [] 2 ?_ U U U;rotate_left;refine Zkn<|Zrg<|Za 3 [1,1] U U<|Znl<|Zxn<|Zxq ?_;refine Zsr<|Za 4 [0,0] U U<|Zu' U U (congrArg Bool.not h18) U<|Zu' U U (congrArg Bool.not h18) U<|Zu' U U (congrArg Bool.not h18) U<|Zv (Ao U (congrArg Bool.not h18) U)<|Zm U ?_;refine Zb 4 U<|Zgs U U (fun h38=>?_) (fun h38=>?_);refine Zu' U U (dT h38) U<|Zu' U U (dT h38) U<|Zv (Ax U (dT h38) U)<|Zb 7 U ?_
  refine Zb 4 U<|Zn<|Zct U<|Zsr<|Zy U<|Znl ?_;refine Zxr<|Zr1<|Zr2<|Zr1<|Zre (.t U .n) hS [] 2 ?_ U U U;rotate_left;refine Zg' U U (dF h38)<|Zm U<|Zg' U U (dF h38)<|Zv (yge U U)<|Zv (Ao U (dF h38) U)<|Zm U<|Zgs U U (fun h42=>?_) (fun h42=>?_);refine Zu' U U (dT h42) U<|Zu' U U (dT h42) U<|Zu' U U (dT h42) U<|Zu' U U (dT h42) U<|Zb 4 U<|Zu' U U (dT h42) U<|Zv (Ax U (dT h42) U) ?_;refine Zn<|Zct U<|Zsr<|Zy U<|Znr<|Zr1<|Zr2 ?_;refine Zr1<|Zre (.t U .n) hS [] 2 ?_ U U U;rotate_left
  refine Zg' U U (dF h42)<|Zv (yf 1 U)<|Zg' U U (dF h42)<|Zv (yd 0 U U U)<|Zg' U U (dF h42)<|Zv (BM U)<|Zg' U U (dF h42)<|Zm U<|Zgb U U (fun h46=>?_) (fun h46=>?_);refine Zg' U U h46<|Zv (yf 4 U)<|Zg' U U h46<|Zv (yda 1 (m:=16) U U (E2 _) (Enc.len ..))<|Zg' U U h46<|Zv (yb aV U)<|Zg' U U h46<|Zv (dO Y1 _ AE U U)<|Zc 2 [] U U<|Znl ?_;refine Znx<|Zib U (fun h52=>?_) (fun h52=>?_);refine Zsr<|Zy U<|Znr<|Zr1<|Zr2<|Zr1<|Zre (.t U .n) hS [] 2 ?_ U U U;rotate_left;refine Zkn<|Zex<|Zxx<|Zxs<|Zy U<|Znr ?_;refine Zre (.t U .n) hS [] 2 ?_ U U U;rotate_left
  refine Zu' U U h46 U<|Zu' U U h46 U<|Zu' U U h46 U<|Zu' U U h46 U<|Zg' U U (dF h42)<|Zv (Ao U h46 U)<|Zv (Ao U (dF h42) U)<|Zn<|Zcf U ?_;refine Zkn<|Zex<|Zxx<|Zxs<|Zy U<|Znr ?_;refine Zre (.t U .n) hS [] 2 ?_ U U U;rotate_left;refine Zkn<|Zex<|Zxb U<|Zxt<|Zxb U<|Zxt<|Zxx<|Zxq ?_;refine Zsr<|Za 4 [0,0] U U<|Zg' U U (congrArg Bool.not h18)<|Zv (yf 1 U)<|Zg' U U (congrArg Bool.not h18)<|Zv (yd 1 U U U)<|Zg' U U (congrArg Bool.not h18) ?_;refine Zv (yne U U)<|Zv (Ax U (congrArg Bool.not h18) U)<|Zm U<|Zgs U U (fun h34=>?_) (fun h34=>?_)
  refine Zu' U U (dT h34) U<|Zu' U U (dT h34) U<|Zv (Ax U (dT h34) U)<|Zb 7 U ?_;refine Zb 8 U<|Zn ?_;refine Zct U<|Zsr<|Zy U<|Znr<|Zr1<|Zr2<|Zr1<|Zre (.t U .n) hS [] 2 ?_ U U U;rotate_left;refine Zg' U U (dF h34)<|Zm U<|Zg' U U (dF h34)<|Zv (ylt U U)<|Zv (Ao U (dF h34) U)<|Zm U<|Zgs U U (fun h38=>?_) (fun h38=>?_);refine Zu' U U (dT h38) U<|Zu' U U (dT h38) U<|Zv (Ax U (dT h38) U)<|Zb 7 U ?_;refine Zb 4 U<|Zn<|Zct U<|Zsr<|Zy U<|Znl ?_;refine Zxr<|Zr1<|Zr2<|Zr1<|Zre (.t U .n) hS [] 2 ?_ U U U;rotate_left
  refine Zg' U U (dF h38)<|Zm U<|Zg' U U (dF h38)<|Zv (yge U U)<|Zv (Ao U (dF h38) U)<|Zm U<|Zgs U U (fun h42=>?_) (fun h42=>?_);refine Zu' U U (dT h42) U<|Zu' U U (dT h42) U<|Zu' U U (dT h42) U<|Zu' U U (dT h42) U<|Zb 4 U<|Zu' U U (dT h42) U<|Zv (Ax U (dT h42) U) ?_;refine Zn<|Zct U<|Zsr<|Zy U<|Znr<|Zr1<|Zr2 ?_;refine Zr1<|Zre (.t U .n) hS [] 2 ?_ U U U;rotate_left;refine Zg' U U (dF h42)<|Zv (yf 1 U)<|Zg' U U (dF h42)<|Zv (yd 0 U U U)<|Zg' U U (dF h42)<|Zv (BM U)<|Zg' U U (dF h42)<|Zm U<|Zgb U U (fun h46=>?_) (fun h46=>?_)
  refine Zg' U U h46<|Zv (yf 4 U)<|Zg' U U h46<|Zv (yda 1 (m:=16) U U (E2 _) (Enc.len ..))<|Zg' U U h46<|Zv (yb aV U)<|Zg' U U h46<|Zv (dO Y1 _ AE U U)<|Zc 2 [] U U<|Znl ?_;refine Znx<|Zib U (fun h52=>?_) (fun h52=>?_);refine Zsr<|Zy U<|Znr<|Zr1<|Zr2<|Zr1<|Zre (.t U .n) hS [] 2 ?_ U U U;rotate_left;refine Zkn<|Zex<|Zxx<|Zxs<|Zy U<|Znr ?_;refine Zre (.t U .n) hS [] 2 ?_ U U U;rotate_left;refine Zu' U U h46 U<|Zu' U U h46 U<|Zu' U U h46 U<|Zu' U U h46 U<|Zg' U U (dF h42)<|Zv (Ao U h46 U)<|Zv (Ao U (dF h42) U)<|Zn<|Zcf U ?_;refine Zkn<|Zex<|Zxx<|Zxs<|Zy U<|Znr ?_
  refine Zre (.t U .n) hS [] 2 ?_ U U U;rotate_left
  ·refine Zhd [] U U<|Zht 1 U (yf 0 U)<|Zht 2 U (yd 0 U U U)<|ZH2 0 7 (Zok (US ..) [] U U U ?_) (Zoe U (eal Rk) fun b3=>Zwh 1 U ?_);refine fun r=>Zqh 1 rfl<|Zh2 3 7 (by kernel_rfl) (Zov rfl (Ix 0 hl rfl rfl rfl Tryz.underlying342 Tryz.underlying114 K5) ?_) (Zoe rfl (eal Rk) fun b3=>Zwh 2 rfl ?_);refine Zht 4 U (ym U)<|Zht 5 U (yx U U)<|Zht 6 U (yx U U)<|ZH1 7<|Zoe U (eal Rk) fun b3=>Zwh 2 U<|ZH1 8<|Zoe U (esw 0 (m:=2) U U U U U U U)<|Ay 2 U<|Zht 9 U (ya U)<|ZHn ?_;rotate_left
   refine ZH1 3<|Zov U (Ix 1 hl U U U Tryz.underlying342 Tryz.underlying114 K5)<|Zht 4 U (ym U)<|Zht 5 U (yx U U)<|Zht 6 U (yx U U)<|ZH1 8<|Zoe U (esw 0 (m:=2) U U U U U U U)<|Ay 2 U<|Zht 9 U (ya U)<|ZHn ?_;rotate_left;refine ZH1 0<|Zok (US ..) [] U U U<|fun r=>Zqh 2 U<|ZH1 3<|Zov U (Ix 0 hl U U U Tryz.underlying342 Tryz.underlying114 K5)<|Zht 4 U (ym U)<|Zht 5 U (yx U U)<|Zht 6 U (yx U U)<|ZH1 8<|Zoe U (esw 1 (m:=2) U U U U U U U)<|Ay 2 U<|Zht 9 U (ya U)<|ZHn ?_;rotate_left
   ·refine Zjr b3 ⟨U,U,U,trivial⟩ [0,1] 1 U U
   ·refine Zjr b3 ⟨U,U,U,trivial⟩ [0,1] 1 U U
   ·refine Zjr b3 ⟨U,U,U,trivial⟩ [1,1] 1 U U
  all_goals (clear hS;simp_all [pk])
def DT (b:Nat) (most:Int) (q:List Msg):HP:=fun h=>∃A cap,Sep [.blk b 191 [.slice A q.length cap,.int .i64 most],.hp (own Al A cap q)] h
theorem HJ {b:Nat} {most:Int} {q:List Msg}:Op_ (DT b most q) fun K=>∀A cap,K [.blk b 191 [.slice A q.length cap,.int .i64 most],.hp (own Al A cap q)] := .mk fun G k h hh=>by obtain⟨A,cap,hs⟩:=hh;exact⟨_,k A cap,hs⟩
theorem C9 {b cap n:Nat} {most:Int} {A:Option Addr} {q:List Msg} (hn:n=q.length):∀h,Sep [.blk b 191 [.slice A n cap,.int .i64 most],.hp (own Al A cap q)] h→DT b most q h:=fun _ hs=>⟨A,cap,hn ▸ hs⟩
theorem c79 (b:Nat) (most:Int) (q:List Msg) (h0:most≠0:=by assumption):Sp Tryz.prog 79 [pt b] [.hp (DT b most q)] fun K=>K (.returned (.bool false)) [.hp (DT b most q)]:=by refine Zen Tryz.func79 U U U fun e X Φ hS=>Zsr<|Zy U<|Zns<|Zm U<|Zv (D6 U U U)<|Zm U<|Zg U U ?_;refine Za 3 [1] U U<|Zg U U ?_;refine Zol 0 HJ U<|fun A cap=>Zv (yd 0 U U U)<|Zb 3 U<|Znr ?_;refine Zfx [0,0] (C9 (q:=q) U) U<|Zre (.t U .n) hS [0] 0 ?_ U U U;simp[pk,h0]
theorem c72 (most:Int) (h:1≤most∧most≤1024):Sp Tryz.prog 72 [.int .i64 most] [] fun K=>∀b,K (.returned (.tuple #[pt b,.int .i64 0])) [.hp (DT b most [])]:=by
 refine Zen Tryz.func72 U U U fun e X Φ hS=>Zsr<|Zb 2 U<|Aj<|Zb 2 U ?_;refine Zm U<|Zg' U U (dF (by omega))<|Zm U<|Zg' U U (dF (by omega))<|Zv (ygt U U)<|Zv (Ao U (dF (by omega)) U)<|Zn<|Df U (dF (by omega))<|Zsk ?_;refine Zxs<|Zm U<|Zv (yb jN U)<|Ze (ebx U) fun b12=>Zw<|Zb 2 U<|Znr ?_;refine Zix (fun _ hs=>Ag (E:=Al) hs) ?_;refine Zfx [1,0] (C9 (b:=b12) (q:=[]) U) U ?_;refine Zre (.t U (.t U .n)) (hS b12) [0] 0 U U U U
theorem Y6 (b:Nat) (most:Int) (q:List Msg) (h0:most≠0:=by assumption):Sp Tryz.prog 117 [pt b] [.hp (DT b most q)] fun K=>K (.returned (.int .i64 (q.length:Int))) [.hp (DT b most q)]:=by refine Zen Tryz.func117 U U U fun e X Φ hS=>Zsr<|Zy U<|Aj<|Zm U<|Zk (c79 ..) [0] U U<|Zq ?_;refine Zn<|Zcf U<|Zks<|Za 3 [0] U U ?_;refine Zol 0 HJ U<|fun A cap=>Zv (yd 0 U U U)<|Zv (Aw ⟨_,Tryz.underlying112⟩ U)<|Zy U<|Znr ?_;refine Zfx [0,0] (C9 (q:=q) U) U<|Zre (.t U .n) hS [0] 0 U U U U
theorem Y9 (c:Ck) (A:Option Addr) (cap:Nat) (q:List Msg) (hR:Rd Al c A cap q) (hA:A=none→q=[]∧cap=0) (hl:q.length≤1048576):Sp Tryz.prog 123 [.slice A q.length cap] [c] fun K=>∀A' cap',K (.returned (.slice A' q.length cap')) [.hp (own Al A' cap' q),c]:=by
 cases A with
 | none=>
  obtain⟨rfl,rfl⟩:=hA rfl;refine Zen Tryz.func123 U U U fun e X Φ hS=>Zsr<|Zy U<|Aj<|Zm U<|Zv (Ge ⟨_,Tryz.underlying112⟩ U U)<|Znl ?_;refine Znx<|Zct U<|Zsr<|Zy U<|Znr<|Zr1 ?_;refine Zix (fun _ hs=>Ag (E:=Al) hs) ?_;refine Zre (.t U .n) (hS none 0) [0,0] 0 U U U U
 | some a=>
  refine Zen Tryz.func123 U U U fun e X Φ hS=>Zsr<|Zy U<|Aj<|Zm U<|Zv (Ge ⟨_,Tryz.underlying112⟩ U U)<|Znl ?_;refine Znx<|Zcf U<|Zks ?_;refine Ze (U9 BZ)<|fun B=>Zw<|Zm U ?_;have hm:([]:List Msg).length+q.length≤maxLen:=CY (by simp;omega);refine Ze (Dp 0 1 BZ U U U hR U U U (fun _ _=>U) (by simp;omega) hm)<|fun A' cap'=>Zw<|Zy U<|Znr ?_;refine Zre (.t U .n) (hS A' cap') [0,0] 0 U U U U
theorem Z7 (b cap n:Nat) (most:Int) (A:Option Addr) (h0:most≠0:=by assumption):Sp Tryz.prog 79 [pt b] [.blk b 191 [.slice A n cap,.int .i64 most]] fun K=>K (.returned (.bool false)) [.blk b 191 [.slice A n cap,.int .i64 most]]:=by refine Zen Tryz.func79 U U U fun e X Φ hS=>Zsr<|Zy U<|Zns<|Zm U<|Zv (D6 U U U)<|Zm U<|Zg U U ?_;refine Za 6 [1,0] U U ?_;refine Zy U<|Znr<|Zre (.t U .n) hS [0] 0 ?_ U U U;simp[pk,h0]
theorem c80 (b cap:Nat) (most:Int) (A:Option Addr) (q:List Msg) (hA:A=none→q=[]∧cap=0:=by assumption) (h0:most≠0:=by assumption) (hl:q.length≤1048576:=by assumption):Sp Tryz.prog 80 [pt b] [.blk b 191 [.slice A q.length cap,.int .i64 most],.hp (own Al A cap q)] fun K=>∀A' cap',K (.returned (.slice A' q.length cap')) [.hp (own Al A' cap' q),.blk b 191 [.slice A q.length cap,.int .i64 most],.hp (own Al A cap q)]:=by
 refine Zen Tryz.func80 U U U fun e X Φ hS=>Zsr<|Zy U<|Aj<|Zm U ?_;refine Zk (Z7 b cap q.length most A) [0] U U<|Zq<|Zn<|Zcf U<|Zks<|Zb 2 U ?_;refine Za 2 [0,0] U U ?_;refine Zk (Y9 _ A cap q own.rd hA hl) [1] U U<|fun A'=>fun cap'=>Zq<|Zy U<|Znr ?_;refine Zre (.t U .n) (hS A' cap') [0,1,0] 0 U U U U
theorem G2 (pick:Int) {n:Nat} (h:0<n):Int.tmod (Int.tmod pick n+n) n=((Am pick n:Nat):Int)∧Am pick n<n ∧ -(n:Int)<Int.tmod pick n∧Int.tmod pick n<n:=by have h1 : -(n:Int)<Int.tmod pick n:=Int.lt_tmod_of_pos _ (by omega);have h2:Int.tmod pick n<n:=Int.tmod_lt_of_pos _ (by omega);have h3:0≤Int.tmod (Int.tmod pick n+n) n:=Int.tmod_nonneg _ (by omega);have h4:Int.tmod (Int.tmod pick n+n) n<n:=Int.tmod_lt_of_pos _ (by omega);unfold Am;exact⟨by omega,by omega,h1,h2⟩
def Fb (most:Int) (q:List Msg) (m:Msg):List Msg × Int:=if chk m≠0 then(q,chk m) else if most≤q.length then(q,210) else(q++[m],0)
theorem fH (b:Nat) (most:Int) (q:List Msg) (m:Msg) (h0:most≠0:=by assumption) (hl:q.length≤1048576:=by assumption):Sp Tryz.prog 183 [pt b,.agg (Al.arr m)] [.hp (DT b most q)] fun K=>K (.returned (.int .i64 (Fb most q m).2)) [.hp (DT b most (Fb most q m).1)]:=by
 refine Zen Tryz.func183 U U U fun e X Φ hS=>Zoc 0 HJ U<|fun A cap=>Zoc 1 Ee U<|fun hA hcp hcm=>Zsr<|Ze (A8 U) fun b3=>Zw<|Zy U<|Aj<|Zm U ?_;refine Zk (Z7 b cap q.length most A) [2] U U<|Zq<|Zn<|Zcf U<|Zkn<|Zsq<|Zsr<|Zv (ydw 1 (m:=20) U U (Enc.len ..)) ?_;refine Zk (W5 ..) [] U U<|Zq<|Zy U<|Zns<|Zb 2 U<|Zn ?_;refine Zif U (fun h11=>?_) (fun h11=>?_);refine Zsr<|Zb 2 U<|Znr<|Zr1 ?_;rotate_left;refine Zkn<|Zsq<|Zsq<|Zhd [] U U<|Zht 0 U (ym U)<|Zht 1 U (yn U)<|Zht 2 U (yf 0 U)<|Zht 3 U (yd 0 U U U)<|Zht 4 U (Aw ⟨_,Tryz.underlying112⟩ U) ?_
 refine Zht 5 U (ym U)<|Zht 6 U (yn U)<|Zht 7 U (yf 1 U)<|Zht 8 U (yd 0 U U U)<|Zht 9 U (yge U U)<|ZHn<|Znx<|Zif U (fun h22=>?_) (fun h22=>?_);refine Zsr<|Zy U<|Znr<|Zr1 ?_;rotate_left;refine Zkn<|Zsq ?_;rotate_left
 ·have e1:Fb most q m=(q,chk m):=if_pos h11;rw[e1] at hS;refine Zfx [0,1] (C9 (b:=b) (q:=q) U) U<|Zre (.t U .n) hS [0] 1 U U U U
 ·have e1:Fb most q m=(q,210):=(if_neg h11).trans (if_pos h22);rw[e1] at hS;refine Zfx [0,1] (C9 (b:=b) (q:=q) U) U<|Zre (.t U .n) hS [0] 1 U U U U
 ·have e1:Fb most q m=(q++[m],0):=(if_neg h11).trans (if_neg h22);rw[e1] at hS;refine Zhf 8 [2] U U<|Zht 0 U (ym U)<|Zht 1 U (ym U)<|Zht 2 U (yn U)<|Zht 3 U (yf 0 U)<|Zht 4 U (yd 0 U U U)<|Zht 5 U (ydw 1 (m:=20) U U (Enc.len ..)) ?_;refine ZH1 6<|Zoe U (eb1 BZ (by decide) U)<|fun B=>Zwh 2 U ?_;have hm:q.length+[m].length≤maxLen:=by show q.length+1≤maxLen;exact Nat.le_trans (Nat.succ_le_succ hl) (by decide)
  refine ZH1 7<|Zoe U (Dp 1 0 BZ U U U own.rd U U U (fun _ _=>U) (by simp;omega) hm)<|fun A' cap'=>Zwh 2 U<|ZHn<|Ztl U<|Ztv (yn U)<|Ztv (yf 0 U)<|Zte (es 2 U U U U U)<|Ztw<|Ztn<|Zxs<|Zy U ?_;refine Znr ?_;refine Zfx [2,1] (C9 (b:=b) (q:=q++[m]) U) U<|Zre (.t U .n) hS [0] 2 U U U U
def Ej (q:List Msg) (k:Nat):List Msg:=q.take k++q.drop (k+1)
theorem eR (b:Nat) (most pick:Int) (q:List Msg) (h0:most≠0:=by assumption) (hl:q.length≤1048576:=by assumption) (hp : -9223372036854775808≤pick∧pick≤9223372036854775807):Sp Tryz.prog 141 [pt b,.int .i64 pick] [.hp (DT b most q)] fun K=>(q=[]→K (.returned (.tuple #[.agg (Al.arr Vx),.bool false])) [.hp (DT b most [])])∧(∀m,q[Am pick q.length]? = some m→K (.returned (.tuple #[.agg (Al.arr m),.bool true])) [.hp (DT b most (Ej q (Am pick q.length)))]):=by
 refine Zen Tryz.func141 U U U fun e X Φ hS=>Zsr<|Ze (eal Iy) fun b4=>Zw<|Zy U<|Zns<|Zm U<|Zk (Y6 ..) [1] U U<|Zq ?_;refine Zy U<|Aj<|Zb 2 U<|Zn<|Zif U (fun h12=>?_) (fun h12=>?_);refine Zsr<|Zv (yb Vq U)<|Ze (esw 1 (m:=20) U U U U U U U)<|Zw0<|Zy U<|Znr<|Zr1 ?_;rotate_left;refine Zks<|Zb 2 U<|Zv (Cc U U (by assumption) U)<|Zm U<|Zv (Ac U U U)<|Zm U<|Zv (Cc U U (by assumption) U) ?_;refine Zy U<|Zns<|Za 3 [0] U U ?_;rotate_left
 ·have hq:q=[]:=List.length_eq_zero_iff.1 (by omega);subst hq;refine Zre (.wh 1 (m:=20) U U U (.t U .n)) (hS.1 U) [0] 1 U U U U
 ·have hn:(q.length:Int)≠0:=h12;obtain⟨p1,p2,p3,p4⟩:=G2 pick (n:=q.length) (by omega);have e1:IntKind.i64.wrap (pick.tmod q.length+q.length)=pick.tmod q.length+q.length:=Ar rfl (by omega);rw[e1,p1];refine Zol 0 HJ U<|fun A cap=>Zol 1 Ee U<|fun hA hcp hcm=>Zv (yd 1 U U U)<|Zm U<|Zv (yea 0 own.rd U U U (by first|assumption|omega) U Tryz.underlying112 U)<|Zv (yel 0 own.rd U (gE (by first|assumption|omega)) U U U)<|Ze (eal Iy) fun b8=>Zw<|Ze (esw 0 (m:=20) U U U U U (Enc.len ..) (Enc.allL ..))<|Zw0<|Znq ?_
  refine Zhf 16 [1] U U<|Zht 0 U (ym U)<|Zht 1 U (ym U)<|Zht 2 U (yn U)<|Zht 3 U (yf 0 U)<|Zht 4 U (yd 1 U U U)<|Zht 5 U (ym U)<|Zht 6 U (ym U)<|Zht 8 U (ym U)<|Zht 9 U (yn U) ?_;refine Zht 10 U (yf 0 U)<|Zht 11 U (yd 1 U U U)<|Zht 12 U (ym U)<|Zht 13 U (Ac U U (Ar U (by omega))) ?_;refine Zht 7 U (lE 20 Tryz.underlying112 U U U (by omega)) ?_;refine Zht 14 U (Wh (j:=Am pick q.length+1) 20 Tryz.underlying112 U U (by omega)) ?_
  refine ZH1 15<|Zoe U (iT 0 (Am pick q.length) BZ U U U p2 (fun _ _=>U) (by omega) (CY hl))<|fun A' cap'=>Zwh 1 U<|ZHn<|Ztl U<|Ztv (yn U)<|Ztv (yf 0 U)<|Zte (es 2 U U U U U)<|Ztw<|Ztn<|Zxs<|Zv (ydw 1 (m:=20) U U (Enc.len ..)) ?_;refine Ze (esw 3 (m:=20) U U U U U (Enc.len ..) (Enc.allL ..))<|Zw0<|Zy U<|Znr ?_;refine Zfx [2,0] (C9 (b:=b) (q:=Ej q (Am pick q.length)) (by unfold Ej;simp;omega)) U ?_;refine Zre (.wh 2 (m:=20) U U (Enc.len ..) (.t U .n)) (hS.2 _ (gE p2)) [0] 2 U U U U
theorem gM (A:Option Addr) (cap k:Nat) (l:List Ln) (hk:k<l.length) (hcp:l.length≤cap) (hl:l.length≤1048576):Sp Tryz.prog 259 [.slice A l.length cap,.int .i64 (k:Int),.int .i64 ((k:Int)+1)] [.hp (own lnE A cap l)] fun K=>K (.returned (.slice A (l.length-1) cap)) [.hp (own lnE A cap (l.take k++l.drop (k+1)))]:=by
 refine Zen Tryz.func259 U U U fun e X Φ hS=>Zsr<|Zy U<|Zns<|Zb 4 U ?_;refine Zv (Aw ⟨_,Tryz.underlying79⟩ U) ?_;refine Zv (YP (i:=k) (j:=k+1) (m:=l.length) 18 Tryz.underlying79 U U U U (by omega) (by omega) (by omega) U U)<|Aj<|Zb 3 U<|Zn ?_;refine Df U (dF (by omega))<|Zks<|Zm U<|Zv (Aw ⟨_,Tryz.underlying79⟩ U)<|Zy U<|Znq ?_;refine Zhd [0] U U<|Zht 0 U (ym U)<|Zht 1 U (ym U)<|Zht 3 U (ym U)<|Zht 4 U (ym U) ?_;refine Zht 2 U (lF (j:=k) 18 Tryz.underlying79 U U (by omega)) ?_;refine Zht 5 U (Wh (j:=k+1) 18 Tryz.underlying79 U U (by omega)) ?_
 refine ZH1 6<|Zoe U (aE 0 k ML U U U hk U)<|Zwh 1 U<|Zht 7 U (ya U)<|ZHn<|Zxs<|Zb 2 U<|Zv (Aw ⟨_,Tryz.underlying79⟩ U)<|Zm U ?_;refine Zv (lD (i:=l.length-1) (j:=l.length) 18 Tryz.underlying79 U U U (by omega) (by omega)) ?_;have hlen:(l.take k++l.drop (k+1)).length=l.length-1:=by simp;omega
 refine Ze (iS 0 ML (z := .agg (lnE.arr ln0)) (by kernel_rfl) (lnE.size _) (lnE.all _) U U (by omega) (by omega))<|fun v=>Zw0<|Zns<|Zb 2 U<|Znr<|Zre (.t U .n) hS [0] 0 U U U U
theorem UT (b n:Nat) (ways num:Int) (L:List Ln) (hw:ways≠0) (hn:0≤num∧num<4294967296) (hu:D7 L) (hl:L.length≤1048576):Sp Tryz.prog 233 [pt b,.int .u32 num] [.hp (AY b n ways L)] fun K=>K (.returned (.bool (AI L num).isSome)) [.hp (AY b n ways (dropL L num))]:=by
 refine Zen Tryz.func233 U U U fun e X Φ hS=>Zoc 0 (GQ (si n num) Hb) U<|fun h0 h64 hi g cells A cap R hc hcl hB=>Zsr<|Zy U<|Aj<|Zm U<|Zk (RL ..) [0] U U<|Zq ?_;refine Zn<|Zcf U<|Zks<|Zb 2 U ?_;have hlo:(ofs n L (si n num)).length≤1048576:=Nat.le_trans (JF L) hl;have hg:=IH (n:=n) L num;rcases GK (ofs n L (si n num)) num with⟨hf,hall⟩|⟨k,hf,hk,hx,hall⟩
 ·have h2:=(hg.symm.trans (GJ ⟨hf,hall⟩))
  have hd:dropL L num=L:=OF (MY h2);rw[hd,h2] at hS;refine Zk (N7 b n g cap ways num L cells A h0 h64 hn hlo hc hcl) [0,0,0] U U<|Zq<|Zb 5 U<|Znq ?_;refine Zsr<|Zb 2 U<|Zn<|DF U (dT (by omega))<|Zsr<|Zy U<|Zn ?_;refine Zrt<|Zr1 ?_;refine Zfx [0,0,0,0] (hB.same hc) U<|Zre (.t U .n) hS [0] 0 U U U U
 ·have h2:=hg.symm.trans (Jp hk hx hall);rw[h2] at hS;refine Zk (N7 b n g cap ways num L cells A h0 h64 hn hlo hc hcl) [0,0,0] U U<|Zq<|Zb 5 U<|Znq ?_;refine Zsr<|Zb 2 U<|Zn<|Df U (dF (by omega))<|Zks<|Zm U ?_;refine Zb 2 U<|Zv (yd 1 U U hc)<|Zb 2 U<|Zv (Ac U U (Ar U (by omega))) ?_;rw[hf];refine Zol 2 Ee U<|fun hA hcp hcm=>?_;refine Zk (gM A cap k (ofs n L (si n num)) hk hcp hlo) [0] U U<|Zq<|Zv (yn U) ?_;have er:(ofs n L (si n num)).take k++(ofs n L (si n num)).drop (k+1)=ofs n (dropL L num) (si n num):=by rw[Tu hk hx hall,KQ (hu.ofs _),Ft]
  have el:(ofs n L (si n num)).length-1=(ofs n (dropL L num) (si n num)).length:=by rw[←er];simp;omega
  rw[er,el];obtain⟨cells',hput⟩:∃cells',put cells (si n num) (.slice A (ofs n (dropL L num) (si n num)).length cap)=some cells':=⟨_,Dz _ _ _ (by omega)⟩
  refine Ze (es 2 U U U hput U)<|Zw0<|Zns<|Zy U<|Znr ?_;refine Zfx [1,1,0,0] (hB (dropL L num) A cap cells' (fun j _ hne=>JE L num hne) hput) U<|Zre (.t U .n) hS [0] 0 U U U U
theorem gH (b n:Nat) (ways num pick:Int) (L:List Ln) (hw1:1≤ways) (hn:0≤num∧num<4294967296) (hp : -9223372036854775808≤pick∧pick≤9223372036854775807) (hl:L.length≤1048576):Sp Tryz.prog 254 [pt b,.int .u32 num,.int .i64 pick] [.hp (AY b n ways L)] fun K=>(∀x,HT n ways L num pick=some x→K (.returned (.tuple #[.agg (lnE.arr x),.bool true])) [.hp (AY b n ways L)])∧(HT n ways L num pick=none→K (.returned (.tuple #[.agg (lnE.arr ln0),.bool false])) [.hp (AY b n ways L)]):=by
 have hw:ways≠0:=by omega
 refine Zen Tryz.func254 U U U fun e X Φ hS=>Zoc 0 (GQ (si n num) Hb) U<|fun h0 h64 hi g cells A cap R hc hcl hB=>Zsr<|Ze (eal Fd) fun b6=>Zw<|Zy U<|Aj<|Zm U<|Zk (RL ..) [1] U U ?_;refine Zq<|Zn<|Zcf U<|Zks<|Zb 2 U ?_;have hlo:(ofs n L (si n num)).length≤1048576:=Nat.le_trans (JF L) hl;have hg:=IH (n:=n) L num;have hfs:=GK (ofs n L (si n num)) num;refine Zk (N7 b n g cap ways num L cells A h0 h64 hn hlo hc hcl) [0,1,1] U U<|Zq<|Zb 5 U<|Zns ?_;refine Zb 2 U<|Zv (yd 1 U U hc)<|Zv (Aw ⟨_,Tryz.underlying79⟩ U)<|Zy U<|Aj<|Zm U ?_
 refine Zb 2 U<|Zgs U U (fun h25=>?_) (fun h25=>?_);refine Zu' U U (dT h25) U<|Zu' U U (dT h25) U<|Zu' U U (dT h25) U<|Zu' U U (dT h25) U<|Zu' U U (dT h25) U<|Zu' U U (dT h25) U<|Zv (Ax U (dT h25) U)<|Zn<|Zct U ?_;refine Zrt<|Zr1 ?_;rotate_left;refine Zg' U U (dF h25)<|Zm U<|Zg' U U (dF h25)<|Zm U<|Zg' U U (dF h25)<|Zv (yn U)<|Zg' U U (dF h25)<|Zv (yf 1 U)<|Zg' U U (dF h25)<|Zv (yd 0 U U U) ?_;refine Zg' U U (dF h25)<|Zv (ylt U U)<|Zv (Ao U (dF h25) U)<|Zn<|Zif U (fun h32=>?_) (fun h32=>?_);refine Zrt<|Zr1 ?_;rotate_left
 refine Zkn<|Zsq<|Zhe 12 U<|Zht 0 U (ym U)<|Zht 1 U (yn U)<|Zht 2 U (yd 1 U U hc)<|Zht 3 U (ym U)<|Zht 4 U (ym U)<|Zht 5 U (Cc U U (by omega) U) ?_;refine Zht 6 U (ym U)<|Zht 7 U (Ac U U U)<|Zht 8 U (ym U)<|Zht 9 U (Cc U U (by omega) U) ?_;rotate_left
 ·have hv:HT n ways L num pick=none:=by
   rcases hfs with⟨hf,_⟩|⟨k,hf,hk,hx,hall⟩
   ·omega
   ·exact if_neg fun h=>by rw[←hg,Jp hk hx hall] at h;cases h.1
  refine Zfx [0,0,0,1] (hB.same hc) U ?_;refine Zre (.wh 1 (m:=18) U U U (.t U .n)) (hS.2 hv) [0] 1 U U U U
 ·have hv:HT n ways L num pick=none:=if_neg fun h=>by omega
  refine Zfx [0,0,0,1] (hB.same hc) U ?_;refine Zre (.wh 1 (m:=18) U U U (.t U .n)) (hS.2 hv) [0] 1 U U U U
 ·have hno:AI L num=none:=by
   rcases hfs with⟨hf,hall⟩|⟨k,hf,hk,hx,hall⟩
   ·exact hg.symm.trans (GJ ⟨hf,hall⟩)
   ·omega
  have hlp:0<(ofs n L (si n num)).length:=by omega
  have hv:HT n ways L num pick=some ((ofs n L (si n num)).getD (Am pick (ofs n L (si n num)).length) ln0):=if_pos ⟨hno,by omega⟩;obtain⟨p1,p2,p3,p4⟩:=G2 pick hlp;have e1:IntKind.i64.wrap (pick.tmod (ofs n L (si n num)).length+(ofs n L (si n num)).length)=pick.tmod (ofs n L (si n num)).length+(ofs n L (si n num)).length:=Ar rfl (by omega);have e2:(ofs n L (si n num)).getD (Am pick (ofs n L (si n num)).length) ln0=(ofs n L (si n num))[Am pick (ofs n L (si n num)).length]:=by simp[List.getD,p2]
  rw[e2] at hv;rw[e1,p1];refine Zht 10 U (yea 2 own.rd U U U (by first|assumption|omega) U Tryz.underlying79 U)<|Zht 11 U (yel 2 own.rd U (gE (by first|assumption|omega)) U U U)<|ZHn<|Ztl U<|Zte (esw 3 (m:=18) U U U U U (Enc.len ..) (Enc.allL ..))<|Ztw<|Ztv (ya U)<|Ztn<|Zxr ?_;refine Zfx [0,0,0,1] (hB.same hc) U ?_;refine Zre (.wh 1 (m:=18) U U (Enc.len ..) (.t U .n)) (hS.1 _ hv) [0] 1 U U U U
theorem Nz (m:Nat) {h:Hl}:Sep [] h→Sep ((List.replicate m (⟨none,0,[]⟩:Row)).map JS) h:=fun hs=>by
 induction m with
 | zero=>exact hs
 | succ m ih=>exact Ag (E:=lnE) ih
theorem QM {b g n:Nat} {ways:Int} (h0:0<n) (h64:n≤64):∀h,Sep [.blk b 224 [.slice (some ⟨g,0,none⟩) n n,.int .i64 ways],.blk g 79 (List.replicate n (.slice none 0 0))] h→AY b n ways [] h:=fun h hs=>
 ⟨h0,h64,g,List.replicate n ⟨none,0,[]⟩,by simp,fun j r hj=>by
  have:=List.getElem?_eq_some_iff.1 hj;obtain⟨hlt,he⟩:=this;rw[List.getElem_replicate] at he;rw[←he];rfl,by
  rw[List.map_replicate]
  exact hs.mapTl fun h hs=>hs.mapTl fun h hs=>by
   have:=Nz n (h:=h) hs
   exact this⟩
theorem eM (n:Nat) (ways:Int):Sp Tryz.prog 122 [.int .i64 (n:Int),.int .i64 ways] [] fun K=>(BV n ways=true→∀b,K (.returned (.tuple #[pt b,.int .i64 0])) [.hp (AY b n ways [])])∧(BV n ways=false→K (.returned (.tuple #[.pointer none,.int .i64 2])) []):=by
 cases hr:BV n ways with
 | true=>
  obtain⟨r1,r2,r3,r4,r5⟩:=FQ hr;have r3':¬IntKind.i64.wrap (BitVec.ofInt IntKind.i64.bits (n:Int) &&& BitVec.ofInt IntKind.i64.bits ((n:Int)-1)).toNat≠0:=r3;refine Zen Tryz.func122 U U U fun e X Φ hS=>Zsr<|Zb 2 U<|Aj<|Zb 2 U ?_;refine Zm U<|Zg' U U (dF r1)<|Zm U<|Zg' U U (dF r1)<|Zv (ygt U U)<|Zv (Ao U (dF r1) U)<|Zm U<|Zg' U U (dF r2)<|Zm U<|Zg' U U (dF r2) ?_;refine Zm U<|Zg' U U (dF r2)<|Zv (Dh U U (Ar U (by omega)))<|Zg' U U (dF r2)<|Zv (Fc U U U)<|Zg' U U (dF r2)<|Zv (yne U U)<|Zv (Ao U (dF r2) U)<|Zm U<|Zg' U U (dF r3') ?_
  refine Zm U<|Zg' U U (dF r3')<|Zv (ylt U U)<|Zv (Ao U (dF r3') U)<|Zm U<|Zg' U U (dF r4)<|Zm U<|Zg' U U (dF r4)<|Zv (ygt U U)<|Zv (Ao U (dF r4) U) ?_;refine Zn<|Df U (dF r5)<|Zks<|Zm U ?_;refine Ze (Xu (bytes:=24) (zv := .slice none 0 0) Tryz.underlying222 U U U (by omega) (CY (by omega)))<|fun g=>Zw<|Zm U<|Zv (yb bC U)<|Ze (ebx U) fun b31=>Zw<|Zb 2 U<|Znr ?_;refine Zfx [0,0] (QM (b:=b31) (by omega) (by omega)) U ?_;refine Zre (.t U (.t U .n)) (hS.1 U b31) [0] 0 U U U U
 | false=>
  refine Zen Tryz.func122 U U U fun e X Φ hS=>Zsr<|Zb 2 U<|Aj<|Zb 2 U ?_;refine Zm U<|Zgs U U (fun h8=>?_) (fun h8=>?_);refine Zu' U U (dT h8) U<|Zu' U U (dT h8) U<|Zv (Ax U (dT h8) U)<|Zb 7 U ?_;refine Zb 8 U<|Zn ?_;refine Zct U<|Zsr<|Zb 2 U<|Znr<|Zr1 ?_;rotate_left;refine Zg' U U (dF h8)<|Zm U<|Zg' U U (dF h8)<|Zv (ygt U U)<|Zv (Ao U (dF h8) U)<|Zm U<|Zgs U U (fun h12=>?_) (fun h12=>?_);refine Zu' U U (dT h12) U<|Zu' U U (dT h12) U<|Zu' U U (dT h12) U<|Zu' U U (dT h12) U<|Zu' U U (dT h12) U<|Zv (Ax U (dT h12) U)<|Zb 4 U ?_;refine Zb 4 U<|Zn<|Zct U<|Zsr<|Zb 2 U ?_;refine Znr<|Zr1 ?_
  rotate_left;refine Zg' U U (dF h12)<|Zm U<|Zg' U U (dF h12)<|Zm U<|Zg' U U (dF h12)<|Zv (Dh U U (Ar U (by omega)))<|Zg' U U (dF h12)<|Zv (Fc U U U)<|Zg' U U (dF h12)<|Zv (yne U U) ?_;refine Zv (Ao U (dF h12) U)<|Zm U<|Zgs U U (fun h19=>?_) (fun h19=>?_);refine Zu' U U (dT h19) U<|Zu' U U (dT h19) U<|Zv (Ax U (dT h19) U)<|Zb 4 U<|Zn<|Zct U ?_;refine Zsr<|Zb 2 U<|Znr<|Zr1 ?_;rotate_left;refine Zg' U U (dF h19)<|Zm U<|Zg' U U (dF h19)<|Zv (ylt U U)<|Zv (Ao U (dF h19) U)<|Zm U<|Zgs U U (fun h23=>?_) (fun h23=>?_)
  refine Zu' U U (dT h23) U<|Zu' U U (dT h23) U<|Zv (Ax U (dT h23) U)<|Zn<|Zct U<|Zsr<|Zb 2 U<|Znl ?_;refine Zxr<|Zr1 ?_;rotate_left;refine Zg' U U (dF h23)<|Zm U<|Zg' U U (dF h23)<|Zv (ygt U U)<|Zv (Ao U (dF h23) U)<|Zn<|Zif U (fun h26=>?_) (fun h26=>?_);refine Zsr<|Zb 2 U<|Znr<|Zr1 ?_;rotate_left;refine Zks<|Zm U ?_;rotate_left
  ·refine Zre (.t U (.t U .n)) (hS.2 U) [] 0 U U U U
  ·refine Zre (.t U (.t U .n)) (hS.2 U) [] 0 U U U U
  ·refine Zre (.t U (.t U .n)) (hS.2 U) [] 0 U U U U
  ·refine Zre (.t U (.t U .n)) (hS.2 U) [] 0 U U U U
  ·refine Zre (.t U (.t U .n)) (hS.2 U) [] 0 U U U U
  ·exact(TB hr (by assumption) (by assumption) (by assumption) (by assumption) (by assumption)).elim
theorem eN (c:Ck) (A:Option Addr) (cap:Nat) (q:List Ln) (hR:Rd lnE c A cap q) (hA:A=none→q=[]∧cap=0) (hl:q.length≤1048576):Sp Tryz.prog 125 [.slice A q.length cap] [c] fun K=>∀A' cap',K (.returned (.slice A' q.length cap')) [.hp (own lnE A' cap' q),c]:=by
 cases A with
 | none=>
  obtain⟨rfl,rfl⟩:=hA rfl;refine Zen Tryz.func125 U U U fun e X Φ hS=>Zsr<|Zy U<|Aj<|Zm U<|Zv (Ge ⟨_,Tryz.underlying79⟩ U U)<|Znl ?_;refine Znx<|Zct U<|Zsr<|Zy U<|Znr<|Zr1 ?_;refine Zix (fun _ hs=>Ag (E:=lnE) hs) ?_;refine Zre (.t U .n) (hS none 0) [0,0] 0 U U U U
 | some a=>
  refine Zen Tryz.func125 U U U fun e X Φ hS=>Zsr<|Zy U<|Aj<|Zm U<|Zv (Ge ⟨_,Tryz.underlying79⟩ U U)<|Znl ?_;refine Znx<|Zcf U<|Zks ?_;refine Ze (U9 ML)<|fun B=>Zw<|Zm U ?_;have hm:([]:List Ln).length+q.length≤maxLen:=CY (by simp;omega);refine Ze (Dp 0 1 ML U U U hR U U U (fun _ _=>U) (by simp;omega) hm)<|fun A' cap'=>Zw<|Zy U<|Znr ?_;refine Zre (.t U .n) (hS A' cap') [0,0] 0 U U U U
def EZ (b g n:Nat) (ways:Int) (L:List Ln):HP:=fun h=>0<n∧n≤64∧∃(rs:List Row),rs.length=n∧(∀j r,rs[j]? = some r→r.l=ofs n L j)∧Sep (.blk b 224 [.slice (some ⟨g,0,none⟩) n n,.int .i64 ways] :: .blk g 79 (rs.map Row.val)::rs.map JS) h
theorem PI {b n:Nat} {ways:Int} {L:List Ln}:Op_ (AY b n ways L) fun K=>0<n→n≤64→∀g,K [.hp (EZ b g n ways L)] := .mk fun G k h hh=>by obtain⟨hn,hn64,g,rs,hl,hr,hs⟩:=hh;exact⟨_,k hn hn64 g,BN ⟨hn,hn64,rs,hl,hr,hs⟩⟩
theorem M9 {b g n:Nat} {ways:Int} {L:List Ln}:∀h,Sep [.hp (EZ b g n ways L)] h→AY b n ways L h:=fun h hs=>by obtain⟨h1,_,e1,_,_,⟨hn,hn64,rs,hl,hr,hs⟩,_⟩:=hs;exact⟨hn,hn64,g,rs,hl,hr,hs.up e1⟩
def BkG (b n i:Nat) (ways:Int) (L:List Ln) (g:Nat) (cells:List Value) (R:HP):Prop:=∀L' A' cap' cells',(∀j,j<n→j≠i→ofs n L' j=ofs n L j)→put cells i (.slice A' (ofs n L' i).length cap')=some cells'→∀h,Sep [.blk b 224 [.slice (some ⟨g,0,none⟩) n n,.int .i64 ways],.blk g 79 cells',.hp (own lnE A' cap' (ofs n L' i)),.hp R] h→EZ b g n ways L' h
theorem ED {b g n:Nat} {ways:Int} {L:List Ln} (i:Nat) (hi:i<n):Op_ (EZ b g n ways L) fun K=>∀cells A cap R,nth cells i=some (.slice A (ofs n L i).length cap)→cells.length=n→BkG b n i ways L g cells R→K [.blk b 224 [.slice (some ⟨g,0,none⟩) n n,.int .i64 ways],.blk g 79 cells,.hp (own lnE A cap (ofs n L i)),.hp R] := .mk fun G k h hh=>by
 obtain⟨hn,hn64,rs,hl,hr,hs⟩:=hh;have hir:i<rs.length:=by omega
 have hri:rs[i]? = some rs[i]:=gE hir;have hri':=hr i _ hri;have h1:=IG JS hri;obtain⟨M,hM,_⟩:=Sep.at_ h1 (FP JS rs[i] hir)
 have hk:=k (rs.map Row.val) rs[i].A rs[i].cap (Sep M) (by
  have:=IG Row.val hri;rw[this];unfold Row.val
  rw[hri']) (by simpa using hl) (by
  intro L' A' cap' cells' ho hp h hs';have hp':=FP Row.val (⟨A',cap',ofs n L' i⟩:Row) hir;rw[show Row.val ⟨A',cap',ofs n L' i⟩ = .slice A' (ofs n L' i).length cap' from rfl] at hp';have:=hp.symm.trans hp';cases this;obtain⟨M',hM',hback⟩:=Sep.at_ h1 (FP JS (⟨A',cap',ofs n L' i⟩:Row) hir);have:M'=M:=by rw[hM] at hM';cases hM';rfl
  subst this;refine⟨hn,hn64,rs.set i ⟨A',cap',ofs n L' i⟩,by simpa using hl,?_,?_⟩
  ·intro j r hj;by_cases hji:j=i
   ·subst hji;rw[List.getElem?_set_self hir] at hj;cases hj;rfl
   ·rw[List.getElem?_set_ne (Ne.symm hji)] at hj;have hjn:j<n:=by have:=(List.getElem?_eq_some_iff.1 hj).1;omega
    rw[ho j hjn hji];exact hr j r hj
  ·refine hs'.mapTl fun h hs=>hs.mapTl fun h hs=>hback h ?_;refine hs.mapTl fun h hs=>?_;have:=Sep.flat hs
   simpa using this)
 refine⟨_,hk,?_⟩;refine hs.mapTl fun h hs=>hs.mapTl fun h hs=>?_;have:=Sep.pick hM hs;refine Sep.hd (p:=JS rs[i]) ?_ fun h hh=>?_
 ·refine this.mapTl fun h hs=>?_;have hs2:Sep (M++[]) h:=by simpa using hs
  exact hs2.unflat
 ·show own lnE rs[i].A rs[i].cap (ofs n L i) h;rw[←hri'];exact hh
theorem BkG.same {b n i g:Nat} {ways:Int} {L:List Ln} {cells:List Value} {R:HP} {A:Option Addr} {cap:Nat} (h:BkG b n i ways L g cells R) (hc:nth cells i=some (.slice A (ofs n L i).length cap)):∀h,Sep [.blk b 224 [.slice (some ⟨g,0,none⟩) n n,.int .i64 ways],.blk g 79 cells,.hp (own lnE A cap (ofs n L i)),.hp R] h→EZ b g n ways L h:=h L A cap cells (fun _ _ _=>rfl) (G3 hc)
theorem On {b g n:Nat} {ways:Int} (h0:0<n) (h64:n≤64):∀h,Sep [.blk b 224 [.slice (some ⟨g,0,none⟩) n n,.int .i64 ways],.blk g 79 (List.replicate n (.slice none 0 0))] h→EZ b g n ways [] h:=fun h hs=>
 ⟨h0,h64,List.replicate n ⟨none,0,[]⟩,by simp,fun j r hj=>by
  have:=List.getElem?_eq_some_iff.1 hj;obtain⟨hlt,he⟩:=this;rw[List.getElem_replicate] at he;rw[←he];rfl,by
  rw[List.map_replicate]
  exact hs.mapTl fun h hs=>hs.mapTl fun h hs=>by
   have:=Nz n (h:=h) hs
   exact this⟩
def OY (n j:Nat) (L:List Ln):List Ln:=L.filter fun x=>decide (si n x.num<j)
theorem Rf (n:Nat) (L:List Ln):OY n 0 L=[]:=List.filter_eq_nil_iff.2 fun x _=>by simp
theorem Uf {n:Nat} (h:0<n) (L:List Ln):OY n n L=L:=List.filter_eq_self.2 fun x _=>by simpa using Hb h
theorem JG (n j i:Nat) (L:List Ln):ofs n (OY n j L) i=if i<j then ofs n L i else[]:=by
 unfold ofs OY;rw[List.filter_filter];split
 ·rename_i h;congr 1;funext x;unfold BT;by_cases hx:si n x.num=i
  ·simp[hx,h]
  ·simp[hx]
 ·rename_i h;refine List.filter_eq_nil_iff.2 fun x _=>?_;unfold BT;simp;omega
theorem c84 (b n:Nat) (ways:Int) (L:List Ln) (hw:ways≠0) (hl:L.length≤1048576):Sp Tryz.prog 84 [pt b] [.hp (AY b n ways L)] fun K=>∀b',K (.returned (pt b')) [.hp (AY b' n ways L),.hp (AY b n ways L)]:=by
 refine Zen Tryz.func84 U U U fun e X Φ hS=>Zoc 0 PI U<|fun h0 h64 g=>Zoc 0 (ED 0 h0) U<|fun cells A cap R hc hcl hB=>Zsr<|Zy U<|Aj<|Zm U<|Zk (RL ..) [0] U U<|Zq ?_;refine Zn<|Zcf U<|Zkn<|Zsq<|Zhd [] U U<|Zht 0 U (ym U)<|Zht 1 U (yn U)<|Zht 2 U (yf 0 U) ?_;refine Zht 3 U (yd 0 U U U)<|Zht 4 U (Aw ⟨_,Tryz.underlying222⟩ U)<|Zht 6 U (ym U)<|Zht 7 U (yn U)<|Zht 8 U (yf 1 U)<|Zht 9 U (yd 0 U U U) ?_
 refine ZH1 5<|Zoe U (Xu (bytes:=24) (zv := .slice none 0 0) Tryz.underlying222 U U U (by omega) (CY (by omega)))<|fun g2=>Zwh 1 U<|Zht 10 U (yb bC U)<|ZH1 11<|Zoe U (ebx U) fun b19=>Zwh 2 U<|Zht 12 U (ya U)<|ZHn<|Zxq<|Zsr<|Zb 2 U ?_;refine Za 2 [0,2] U U<|Zv (Aw ⟨_,Tryz.underlying222⟩ U)<|Zm U<|Znb ?_;refine Zfc [0,0] (On (b:=b19) h0 h64) U ?_;refine Zfc [1,1,1,1] (hB.same hc) U ?_;have hlo:∀j,(ofs n L j).length≤1048576:=fun j=>Nat.le_trans (JF L) hl
 refine Zlq (ι:={ i:Nat // i≤n }) (fun i=>[(25,.int .i64 (i.1:Int)),(24,.int .i64 (n:Int)),(23,.slice (some ⟨g,0,none⟩) n n),(3,pt b19)]) (fun i=>[.hp (EZ b19 g2 n ways (OY n i.1 L)),.hp (EZ b g n ways L)]) (fun i=>n-i.1) ⟨0,by omega⟩ ⟨U,U,U,U,trivial⟩ [1,0] (by rw[Rf];rfl) fun i=>Zsr<|Zv (ylt U U)<|Znq<|Zif U (fun h26=>?_) (fun h26=>?_);refine Zkn<|Zsq<|Zbl<|Zsr<|Zm U ?_;rotate_left;refine Zex<|Zxt<|Zxt<|Zxx<|Zxs<|Zb 2 U<|Zn ?_;refine Zrt ?_;rotate_left
 ·have hlt:i.1<n:=by omega
  refine Zol 1 (ED i.1 hlt) U<|fun cells1 A1 cap1 R1 hc1 hcl1 hB1=>Zv (yeb (s:=1) (j:=i.1) i.1 Tryz.underlying222 U U hlt (by omega))<|Zv (yd 1 U U hc1)<|Zb 2 U<|Zn ?_;refine Zoc 2 Ee U<|fun hA1 hcp1 hcm1=>Zoc 4 (ED i.1 hlt) U<|fun cells2 A2 cap2 R2 hc2 hcl2 hB2=>?_;refine Zhf 8 [4,1] U U<|Zht 0 U (ym U)<|Zht 1 U (yn U)<|Zht 2 U (yf 0 U)<|Zht 3 U (yd 0 U U U)<|Zht 4 U (ym U)<|Zht 5 U (ym U) ?_;refine ZH1 6<|Zok (eN _ A1 cap1 (ofs n L i.1) own.rd hA1 (hlo i.1)) [0] U U U<|fun A'=>fun cap'=>Zqh 3 U ?_
  refine Zht 7 U (yeb (s:=1) (j:=i.1) i.1 Tryz.underlying222 U U hlt (by omega))<|ZHn<|Ztl U ?_;have e1:(ofs n L i.1)=ofs n (OY n (i.1+1) L) i.1:=by rw[JG,if_pos (by omega)]
  obtain⟨cells3,hput⟩:∃cells3,put cells2 i.1 (.slice A' (ofs n L i.1).length cap')=some cells3:=⟨_,Dz _ _ _ (by omega)⟩
  refine Zte (es 2 U U U hput U)<|Ztw<|Ztn<|Zxn<|Znx<|Zrg<|Zv (Ac U U (Ar U (by omega)))<|Zm U<|Znl ?_;refine Zfx [6,6,1,5] (hB1.same hc1) U ?_;rw[e1] at hput;have hf:=hB2 (OY n (i.1+1) L) A' cap' cells3 (fun j _ hj=>by rw[JG,JG];split<;>split<;>first|rfl|omega) hput;rw[←e1] at hf;refine Zfx [3,2,1,2] hf U ?_;refine Zlr ⟨i.1+1,by omega⟩ (by show n-(i.1+1)<n-i.1;omega) ⟨U,U,U,U,trivial⟩ [0,0] 1 U U
 ·have hi:=i.2;rw[show i.1=n by omega,Uf h0];refine Zfx [0] (M9 (b:=b19) (g:=g2)) U ?_;refine Zfx [1] (M9 (b:=b) (g:=g)) U ?_;refine Zre (.t U .n) (hS b19) [1,0] 0 U U U U
theorem c61 (b n:Nat) (ways:Int) (L:List Ln) (hw:ways≠0) (hl:L.length≤1048576):Sp Tryz.prog 61 [pt b] [.hp (AY b n ways L)] fun K=>∀b1 b',K (.returned (.func (.func 107) #[] #[pt b1])) [.blk b1 151 [pt b'],.hp (AY b' n ways L),.hp (AY b n ways L)]:=by refine Zen Tryz.func61 U U U fun e X Φ hS=>Zsr<|Ze (ebx U) fun b1=>Zw<|Zy U<|Zns<|Zv (yd 0 U U U) ?_;refine Zk (c84 b n ways L hw hl) [1] U U<|fun b'=>Zq<|Ze (es 2 U U U U U)<|Zw0<|Zns<|Zv (yfn U U)<|Zy U<|Znl ?_;refine Zxr ?_;refine Zre (.t U .n) (hS b1 b') [2,0,0] 0 U U U U
def Gg (n i k:Nat) (L:List Ln):List Ln:=(List.range i).flatMap (ofs n L)++(ofs n L i).take k
theorem Qs (n:Nat) (L:List Ln):Gg n 0 0 L=[]:=by simp[Gg]
theorem Qr {n i k:Nat} {L:List Ln} {x:Ln} (h:(ofs n L i)[k]? = some x):Gg n i k L++[x]=Gg n i (k+1) L:=by unfold Gg;rw[List.append_assoc,Co h]
theorem Rz {n i:Nat} {L:List Ln}:Gg n i (ofs n L i).length L=Gg n (i+1) 0 L:=by unfold Gg;rw[List.take_of_length_le (Nat.le_refl _),List.range_succ,List.flatMap_append];simp
theorem Rx (n:Nat) (L:List Ln):Gg n n 0 L=allL n L:=by simp[Gg,allL]
theorem Ry {n i k:Nat} {L:List Ln} (hi:i<n) (_hk:k≤(ofs n L i).length):Gg n i k L <+: allL n L:=by
 unfold Gg allL;have e:List.range n=List.range i++(i::(List.range (n-i-1)).map (· + (i+1))):=by rw[show n=i+((n-i-1)+1) by omega,List.range_add];congr 1;rw[show i+(n-i-1+1)-i-1=n-i-1 by omega,List.range_succ_eq_map,List.map_cons,List.map_map];congr 1;apply List.map_congr_left;intro a _;simp;omega
 rw[e,List.flatMap_append,List.flatMap_cons];rw[List.prefix_append_right_inj];exact(List.take_prefix _ _).trans (List.prefix_append _ _)
theorem kH (b b1 n:Nat) (ways:Int) (L:List Ln) (hl:L.length≤1048576):Sq Tryz.prog 107 [pt b1] [.hp (AY b n ways L),.blk b1 151 [pt b]] (fun _=>[]) (fun x=>[.agg (lnE.arr x)]) (allL n L):=by
 refine⟨fun y J Jx hYd=>?_⟩;have hlo:∀j,(ofs n L j).length≤1048576:=fun j=>Nat.le_trans (JF L) hl;refine Zen Tryz.func107 U U U fun e X Φ hS=>Zoc 1 PI U<|fun h0 h64 g=>Zoc 0 (ED 0 h0) U<|fun cells A cap R hc hcl hB=>WP<|Zsq<|Zsr<|Zv (yd 5 U U U)<|Zv (D6 U U U)<|Zn<|Zcf U<|Zsk ?_;refine Zxq<|Zlb<|Zxs<|Za 4 [5,0,0] U U<|Zv (Aw ⟨_,Tryz.underlying222⟩ U) ?_;refine Zm U<|Znb ?_;refine Zfc [0,0,0,0] (hB.same hc) U ?_
 refine Zlq (ι:={ i:Nat // i≤n }) (fun i=>[(14,.int .i64 (i.1:Int)),(13,.int .i64 (n:Int)),(12,.slice (some ⟨g,0,none⟩) n n),(0,.func (.yield y) #[] #[])]) (fun i=>[.hp (EZ b g n ways L),.hp (J (Gg n i.1 0 L))]) (fun i=>n-i.1) ⟨0,by omega⟩ ⟨U,U,U,U,trivial⟩ [0,0] (by rw[Qs];rfl) fun i=>Zsr<|Zv (ylt U U)<|Znq<|Zif U (fun h15=>?_) (fun h15=>?_);refine Zkn<|Zsq<|Zbl<|Zsr ?_;rotate_left;refine Zex<|Zxt<|Zxt<|Zxx<|Zgn<|Zee ?_;rotate_left
 ·have hlt:i.1<n:=by omega
  have hlo':=hlo i.1;refine Zol 0 (ED i.1 hlt) U<|fun cells1 A1 cap1 R1 hc1 hcl1 hB1=>Zv (yeb (s:=1) (j:=i.1) i.1 Tryz.underlying222 U U hlt (by omega))<|Zv (yd 1 U U hc1)<|Zy U<|Zns<|Zm U<|Zv (Aw ⟨_,Tryz.underlying79⟩ U)<|Zm U<|Zn ?_;refine Zbl ?_
  refine Zlq (ι:={ k:Nat // k≤(ofs n L i.1).length }) (fun k=>[(20,.int .i64 (k.1:Int)),(19,.int .i64 ((ofs n L i.1).length:Int)),(18,.slice A1 (ofs n L i.1).length cap1),(14,.int .i64 (i.1:Int)),(13,.int .i64 (n:Int)),(12,.slice (some ⟨g,0,none⟩) n n),(0,.func (.yield y) #[] #[])]) (fun k=>[.hp (J (Gg n i.1 k.1 L)),.hp (own lnE A1 cap1 (ofs n L i.1))]) (fun k=>(ofs n L i.1).length-k.1) ⟨0,by omega⟩ ⟨U,U,U,U,U,U,U,trivial⟩ [4,2] U fun k=>Zsr<|Zv (ylt U U)<|Znq<|Zif U (fun h21=>?_) (fun h21=>?_)
  refine Zkn<|Zsq<|Zbl<|Zsr<|Zv (yea 1 own.rd U U U (by first|assumption|omega) U Tryz.underlying79 U)<|Zv (yel 1 own.rd U (gE (by first|assumption|omega)) U U U)<|Ze (eal Fd) fun b6=>Zw<|Ze (esw 0 (m:=18) U U U U U (Enc.len ..) (Enc.allL ..))<|Zw0<|Znl ?_;refine Zxs<|Zm U<|Zv (ydw 0 (m:=18) U U (Enc.len ..)) ?_;rotate_left;refine Zex<|Zxt<|Zxt<|Zxx<|Zxn<|Znx<|Zrg<|Zv (Ac U U (Ar U (by omega)))<|Zm U<|Znl ?_;rotate_left
  ·have hk:k.1<(ofs n L i.1).length:=by omega
   have hx:=Qr (gE hk);have hp:Gg n i.1 k.1 L++[(ofs n L i.1)[k.1]] <+: allL n L:=by rw[hx];exact Ry hlt hk
   refine Zyd (hYd _ _ hp) 1 U U U ?_ ?_;refine Zv (BM U)<|Zn<|Zcf U<|Zsk<|Zxn<|Znx<|Zrg<|Zv (Ac U U (Ar U (by omega)))<|Zm U ?_;refine Znl ?_;rotate_left;refine Zv (BM U)<|Zn<|Zct U<|Zex<|Zxb U<|Zxt<|Zxt<|Zxb U<|Zxb U ?_;refine Zxt<|Zxt<|Zxx<|Zgn<|Zee ?_;rotate_left
   ·rw[hx];refine Zlr ⟨k.1+1,hk⟩ (by show(ofs n L i.1).length-(k.1+1)<(ofs n L i.1).length-k.1;omega) ⟨U,U,U,U,U,U,U,trivial⟩ [0,1] 1 U U
   ·refine Zre .n (hS.2 _ hp) [0] 6 U U U U
  ·have hk:k.1=(ofs n L i.1).length:=by have:=k.2;omega
   rw[hk,Rz];refine Zfx [2,2,1,1] (hB1.same hc1) U ?_;refine Zlr ⟨i.1+1,hlt⟩ (by show n-(i.1+1)<n-i.1;omega) ⟨U,U,U,U,trivial⟩ [0,0] 0 U U
 ·have hi:=i.2;rw[show i.1=n by omega,Rx];refine Zre .n hS.1 [1] 2 U U U U
theorem Sq.one {α:Type} {P:Program} {gf:Nat} {lb:List Value} {C:List Ck} {C':List α→List Ck} {enc:α→List Value} {xs:List α} (h:Sq P gf lb C C' enc xs):Sq P gf lb [.hp (Sep C)] C' enc xs:=⟨fun l J Jx hY=>⟨fun e X w Φ hp hS=>(h.run l J Jx hY).run e X w Φ (hp.imp fun _ hs=>hs.mapTl fun _ hs=>hs.flat) hS⟩⟩
theorem eE {gf:Nat} {lb:List Value} {c:Ck} {xs:List Ln} (hq:Sq Tryz.prog gf lb [c] (fun _=>[]) (fun x=>[.agg (lnE.arr x)]) xs) (hl:xs.length≤1000000) (hf:Bq Tryz.prog gf=true):Sp Tryz.prog 106 [.slice none 0 0,.func (.func gf) #[] lb.toArray] [c] fun K=>∀A cap,K (.returned (.slice A xs.length cap)) [.hp (own lnE A cap xs)]:=by
 refine J2 Tryz.func106 U U U fun e X Φ hS=>Zsr<|Ze (ebx U) fun b2=>Zw<|Zy U<|Aj<|Zm U<|Znl ?_;refine Znx<|Zbl ?_;refine Zfc [0] (Jb (E:=lnE) (bo:=b2) (ts:=79)) U ?_;refine Zrf hq (fun pre=>[.hp (Km lnE b2 79 pre)]) (fun _=>True) (fun _=>[]) (fun _=>False) (fun _ _=>[]) (fun _ _=>False) [1,0] U U trivial (fun e' y pre x F hx _=>?_) (fun D _=>?_) (fun _ _ _ h=>h.elim) (fun _ _ _ _ h=>h.elim) (fun _=>U) (by decide);refine Zrg<|Ze (eal Fd) fun b5=>Zw<|Ze (esw 0 (m:=18) U U U U U (Enc.len ..) (Enc.allL ..))<|Zw0<|Znl<|Zak 2 U fun F'=>Zbl<|Zrg ?_;rotate_left;refine Zxn<|Zxs ?_
 rotate_left
 ·refine Zol 1 FH U<|fun A cap=>Zv (yd 0 U U U)<|Zv (ydw 2 (m:=18) U U (Enc.len ..)) ?_;have hlen:=E4 hx;have hm:pre.length+[x].length≤maxLen:=CY (by simp;omega);refine Ze (eb1 (E:=lnE) (p:=x) ML (by decide) U)<|fun B=>Zw ?_;refine Ze (Dp 2 0 ML U U U own.rd U U U (fun _ _=>U) (by simp;omega) hm)<|fun A' cap'=>Zw<|Ze (es 1 U U U U U)<|Zw0<|Znl<|Zxn ?_;refine Zfx [1,1] (Ht (bo:=b2) (ts:=79) (pre:=pre++[x]) U) U<|Zrn trivial [0] 2 U U
 ·refine Zol 1 FH U<|fun A cap=>Zv (yd 0 U U U)<|Zy U<|Znr<|Zmk 2 U ?_;refine Zre (.t U .n) (hS A cap) [1] 1 U U U U
theorem c60 {gf:Nat} {lb:List Value} {c:Ck} {xs:List Ln} (hq:Sq Tryz.prog gf lb [c] (fun _=>[]) (fun x=>[.agg (lnE.arr x)]) xs) (hl:xs.length≤1000000) (hf:Bq Tryz.prog gf=true):Sp Tryz.prog 60 [.func (.func gf) #[] lb.toArray] [c] fun K=>∀A cap,K (.returned (.slice A xs.length cap)) [.hp (own lnE A cap xs)]:=by refine Zen Tryz.func60 U U U fun e X Φ hS=>Zsr<|Zy U<|Zns<|Zm U ?_;refine Zk (eE hq hl hf) [0] U U<|fun A=>fun cap=>Zq<|Zy U<|Znr ?_;refine Zre (.t U .n) (hS A cap) [0] 0 U U U U
structure CD where
 id:Int
 n:Nat
 ways:Int
 L:List Ln
 ask:Option (Int × Bool)
 giv:Option Ln
structure CD.Ok (d:CD):Prop where
 i0:0≤d.id
 i1:d.id<4
 n0:0<d.n
 n1:d.n≤64
 w0:1≤d.ways
 w1:d.ways≤8
 un:D7 d.L
 fit:FW d.n d.ways d.L
 ask:∀l wr,d.ask=some (l,wr)→U32 l
def Ii (p:Option Addr):Option (Int × Bool)→HP
 | none=>fun _=>p=none
 | some (l,wr)=>fun h=>∃b,p=some ⟨b,0,none⟩∧Sep [.blk b 196 [.int .u32 l,.bool wr]] h
def Io (p:Option Addr):Option Ln→HP
 | none=>fun _=>p=none
 | some x=>fun h=>∃b,p=some ⟨b,0,none⟩∧Sep [.blk b 145 (lnE.cells x)] h
theorem Ii.is {p:Option Addr} {a:Option (Int × Bool)} {h:Hl} (hh:Ii p a h):p.isSome=a.isSome:=by
 rcases a with _|⟨l,wr⟩
 ·rw[show p=none from hh];rfl
 ·obtain⟨b,e,_⟩:=hh;rw[e];rfl
theorem Io.is {p:Option Addr} {a:Option Ln} {h:Hl} (hh:Io p a h):p.isSome=a.isSome:=by
 cases a with
 | none=>rw[show p=none from hh];rfl
 | some x=>obtain⟨b,e,_⟩:=hh;rw[e];rfl
def AK (b:Nat) (d:CD):HP:=fun h=>d.Ok∧∃lb pa pg,Sep [.blk b 155 [.int .i64 d.id,pt lb,.pointer pa,.pointer pg],.hp (AY lb d.n d.ways d.L),.hp (Ii pa d.ask),.hp (Io pg d.giv)] h
theorem Bc {b:Nat} {d:CD}:Op_ (AK b d) fun K=>d.Ok→∀lb pa pg,pa.isSome=d.ask.isSome→pg.isSome=d.giv.isSome→K [.blk b 155 [.int .i64 d.id,pt lb,.pointer pa,.pointer pg],.hp (AY lb d.n d.ways d.L),.hp (Ii pa d.ask),.hp (Io pg d.giv)] := .mk fun G k h hh=>by obtain⟨ok,lb,va,vg,hs⟩:=hh;obtain⟨_,_,ha⟩:=hs.nth (i:=2) rfl;obtain⟨_,_,hg⟩:=hs.nth (i:=3) rfl;exact⟨_,k ok lb va vg (Ii.is ha) (Io.is hg),hs⟩
theorem Ad {b lb:Nat} {d:CD} {pa pg:Option Addr} (ok:d.Ok):∀h,Sep [.blk b 155 [.int .i64 d.id,pt lb,.pointer pa,.pointer pg],.hp (AY lb d.n d.ways d.L),.hp (Ii pa d.ask),.hp (Io pg d.giv)] h→AK b d h:=fun _ hs=>⟨ok,lb,pa,pg,hs⟩
theorem O9 {p:Option Addr} {l:Int} {wr:Bool}:Op_ (Ii p (some (l,wr))) fun K=>∀b,p=some ⟨b,0,none⟩→K [.blk b 196 [.int .u32 l,.bool wr]] := .mk fun G k h hh=>by obtain⟨b,e,hs⟩:=hh;exact⟨_,k b e,hs⟩
theorem FK {p:Option Addr} {x:Ln}:Op_ (Io p (some x)) fun K=>∀b,p=some ⟨b,0,none⟩→K [.blk b 145 (lnE.cells x)] := .mk fun G k h hh=>by obtain⟨b,e,hs⟩:=hh;exact⟨_,k b e,hs⟩
theorem N2:∀h,Sep [] h→Ii none none h:=fun _ _=>rfl
theorem Ff {b:Nat} {l:Int} {wr:Bool}:∀h,Sep [.blk b 196 [.int .u32 l,.bool wr]] h→Ii (some ⟨b,0,none⟩) (some (l,wr)) h:=fun _ hs=>⟨b,rfl,hs⟩
theorem SJ:∀h,Sep [] h→Io none none h:=fun _ _=>rfl
theorem HC {b:Nat} {x:Ln}:∀h,Sep [.blk b 145 (lnE.cells x)] h→Io (some ⟨b,0,none⟩) (some x) h:=fun _ hs=>⟨b,rfl,hs⟩
def Ln.st (x:Ln) (s:Int):Ln:=⟨x.num,s,x.bs,x.hn⟩
theorem WA (x:Ln) (s:Int):put (lnE.cells x) 1 (.int .i64 s)=some (lnE.cells (x.st s)):=rfl
def Msg.wb (m:Msg) (b:B16):Msg:=⟨m.kind,m.src,m.dst,m.line,b,m.hn⟩
theorem LF (m:Msg) (b:B16):spl (Al.cells m) 4 (bsE.cells b)=Al.cells (m.wb b):=by show spl (m.cells) 4 (Mp b)=(m.wb b).cells;unfold Msg.cells Msg.wb Mp;simp only[spl];rw[List.drop_of_length_le (by simp[m.bs.2.1,b.2.1]),List.append_nil]
section
variable {P:Program} {N:Nat × List Deferred} {T:Tb} {e:World} {L:List Ck} {ty:TypeId} {pos:String} {af:Array Edge} {g:Option (Nat × Bool)} {dd:Option Nat}
theorem WL {CJ:List (Nat × Operand)} {n s:Int} {b:B16} (hn:0≤n∧n<4294967296) (h:evP T CJ=some [(0,.int .u32 n),(1,.int .i64 s),(2,.agg (bsE.cells b).toArray)]):Yl Tryz.prog N T e L ⟨dd,.build 145 CJ.toArray,ty,pos,af,g⟩ (.agg (lnE.arr ⟨n,s,b,hn⟩)):=fun a w fr hp=>by
 have hb:(cl (.agg (bsE.cells b).toArray)).length=16:=bsE.len b;have:=yb (P:=Tryz.prog) (N:=N) (T:=T) (e:=e) (L:=L) (dd:=dd) (ty:=ty) (pos:=pos) (af:=af) (g:=g) XF h ⟨⟨_,_,rfl,rfl,rfl⟩,⟨_,_,rfl,rfl,rfl⟩,⟨_,_,rfl,hb,rfl⟩,trivial⟩ a w fr hp;rw[this];congr 3;have hl:(bsE.cells b).length=16:=bsE.len b;show(List.toArray _)=List.toArray _;congr 1;show _::_::(bsE.cells b++_)=_::_::bsE.cells b;congr 2;rw[List.drop_of_length_le (by rw[hb];exact Nat.le_refl 16),List.append_nil]
theorem dN {CJ:List (Nat × Operand)} {n:Int} {b:B16} (hn:0≤n∧n<4294967296) (h:evP T CJ=some [(0,.int .u32 n),(2,.agg (bsE.cells b).toArray)]):Yl Tryz.prog N T e L ⟨dd,.build 145 CJ.toArray,ty,pos,af,g⟩ (.agg (lnE.arr ⟨n,0,b,hn⟩)):=fun a w fr hp=>by
 have hb:(cl (.agg (bsE.cells b).toArray)).length=16:=bsE.len b;have:=yb (P:=Tryz.prog) (N:=N) (T:=T) (e:=e) (L:=L) (dd:=dd) (ty:=ty) (pos:=pos) (af:=af) (g:=g) XF h ⟨⟨_,_,rfl,rfl,rfl⟩,⟨_,_,rfl,hb,rfl⟩,trivial⟩ a w fr hp;rw[this];congr 3;have hl:(bsE.cells b).length=16:=bsE.len b;show(List.toArray _)=List.toArray _;congr 1;show _::_::(bsE.cells b++_)=_::_::bsE.cells b;congr 2;rw[List.drop_of_length_le (by rw[hb];exact Nat.le_refl 16),List.append_nil]
end
theorem Su {n:Nat} {ways:Int} {L:List Ln} (h0:0<n) (h64:n≤64) (hw:ways≤8) (hf:FW n ways L):L.length≤512:=by
 have h1:∀m,m≤n→((List.range m).flatMap (ofs n L)).length≤m*8:=by
  intro m;induction m with
  | zero=>intro _;simp
  | succ m ih=>
   intro hm;rw[List.range_succ,List.flatMap_append,List.length_append];simp only[List.flatMap_cons,List.flatMap_nil,List.append_nil];have h2:=ih (by omega);have h3:=hf m (by omega);omega
 have h2:=h1 n (Nat.le_refl _);have h3:(allL n L).length=L.length:=Fe h0 L;unfold allL at h3;omega
theorem CD.Ok.len {d:CD} (h:d.Ok):d.L.length≤512:=Su h.n0 h.n1 h.w1 h.fit
def Ap (s:Int):Bool:=decide (s=2) || decide (s=3)
def Cj (L:List Ln) (num:Int):Ln:=(AI L num).getD ln0
def stateOf (L:List Ln) (num:Int):Int:=(Cj L num).state
def CD.setL (d:CD) (L:List Ln):CD:=⟨d.id,d.n,d.ways,L,d.ask,d.giv⟩
theorem c59 (b lb:Nat) (v0 va vg:Value):Sp Tryz.prog 59 [pt b] [.blk b 155 [v0,pt lb,va,vg]] fun K=>K (.returned (.bool false)) [.blk b 155 [v0,pt lb,va,vg]]:=by refine Zen Tryz.func59 U U U fun e X Φ hS=>Zsr<|Zy U<|Zns<|Zm U<|Zv (D6 U U U)<|Zm U<|Zg U U ?_;refine Za 4 [1,0] U U<|Zg U U<|Zv (D6 U U U)<|Zv (ypf U U) ?_;refine Zy U<|Znr<|Zre (.t U .n) hS [0] 0 U U U U
theorem RN (s:Int):Sp Tryz.prog 222 [.int .i64 s] [] fun K=>K (.returned (.bool (Ap s))) []:=by
 refine Zen Tryz.func222 U U U fun e X Φ hS=>Zsr<|Zy U<|Zns<|Zb 3 U<|Zgs U U (fun h5=>?_) (fun h5=>?_);refine Zu' U U (dT h5) U<|Zu' U U (dT h5) U<|Zv (Ax U (dT h5) U)<|Zy U<|Znr<|Zre (.t U .n) hS [] 0 ?_ U U U;rotate_left;refine Zg' U U (dF h5)<|Zm U<|Zg' U U (dF h5)<|Zv (yeq U U)<|Zv (Ao U (dF h5) U)<|Zy U<|Znr<|Zre (.t U .n) hS [] 0 ?_ U U U;rotate_left
 all_goals simp[pk,Ap, *]
theorem Pg (b n:Nat) (ways num:Int) (L:List Ln) (hw:ways≠0) (hn:0≤num∧num<4294967296) (hl:L.length≤1048576):Sp Tryz.prog 146 [pt b,.int .u32 num] [.hp (AY b n ways L)] fun K=>K (.returned (.tuple #[.agg (lnE.arr (Cj L num)),.bool (AI L num).isSome])) [.hp (AY b n ways L)]:=⟨fun e X w Φ hp hS=>(eW b n ways num L hw hn hl).run e X w Φ hp (by
 cases hg:AI L num with
 | none=>
  refine⟨fun x h=>(by cases h),fun _=>?_⟩;simpa[Cj,hg] using hS
 | some x=>
  refine⟨fun y h=>?_,fun h=>(by cases h)⟩;cases h
  simpa[Cj,hg] using hS)⟩
theorem c97 (b:Nat) (d:CD) (num:Int) (hn:U32 num):Sp Tryz.prog 97 [pt b,.int .u32 num] [.hp (AK b d)] fun K=>K (.returned (.int .i64 (stateOf d.L num))) [.hp (AK b d)]:=by
 refine Zen Tryz.func97 U U U fun e X Φ hS=>Zoc 0 Bc U<|fun ok lb pa pg ha hg=>Zsr<|Zy U<|Aj<|Zm U<|Zk (c59 ..) [0] U U<|Zq ?_;refine Zn<|Zcf U<|Zks<|Za 4 [1,0] U U ?_;refine Zm U ?_;refine Zk (Pg lb d.n d.ways num d.L (by have:=ok.w0;omega) hn (Nat.le_trans ok.len (by decide))) [1] U U<|Zq<|Zb 3 U<|Ze (eal Fd) fun b5=>Zw<|Ze (esw 0 (m:=18) U U U U U (Enc.len ..) (Enc.allL ..))<|Zw0<|Zy U<|Zn ?_;refine Zsr<|Za 3 [1,0] U U<|Znr ?_;refine Zfx [2,1,1,1] (Ad (b:=b) (d:=d) ok) U<|Zre (.t U .n) hS [0] 1 U U U U
theorem eC (b:Nat) (d:CD):Sp Tryz.prog 103 [pt b] [.hp (AK b d)] fun K=>K (.returned (.tuple #[.agg (lnE.arr (d.giv.getD ln0)),.bool d.giv.isSome])) [.hp (AK b d)]:=by
 obtain⟨id_,n,ways,L,ask,giv⟩:=d;cases giv with
 | none=>
  refine Zen Tryz.func103 U U U fun e X Φ hS=>Zoc 0 Bc U<|fun ok lb pa pg ha hg=>Zsr<|Ze (eal Fd) fun b2=>Zw<|Zy U<|Aj<|Zm U<|Zk (c59 ..) [1] U U ?_;refine Zq<|Za 5 [3,0] U U ?_;refine Zg U U<|Zv (D6 U U U)<|Zv (ypf U U)<|Zn<|Zib U (fun h12=>?_) (fun h12=>?_);refine Zsr<|Zv (yb XF U)<|Ze (esw 1 (m:=18) U U U U U U U)<|Zw0<|Zy U<|Znr<|Zr1 ?_;rotate_left;refine Zks<|Za 4 [3,0] U U ?_;rotate_left
  ·refine Zfx [0,1,1,1] (Ad (b:=b) (d:=⟨id_,n,ways,L,ask,none⟩) ok) U<|Zre (.wh 1 (m:=18) U U U (.t U .n)) hS [0] 1 U U U U
  ·exact absurd h12 (by cases pg with|none=>simp|some a=>cases hg)
 | some x=>
  refine Zen Tryz.func103 U U U fun e X Φ hS=>Zoc 0 Bc U<|fun ok lb pa pg ha hg=>Zoc 3 FK U<|fun bg eg=>?_;subst eg;refine Zsr<|Ze (eal Fd) fun b2=>Zw<|Zy U<|Aj<|Zm U<|Zk (c59 ..) [2] U U<|Zq ?_;refine Za 5 [3,0] U U<|Zg U U ?_;refine Zv (D6 U U U)<|Zv (ypf U U)<|Zn<|Zcf U<|Zks<|Zb 2 U ?_;refine Za 3 [3,0] U U<|Zv (ydw 2 (m:=18) U U (Enc.len ..))<|Ze (esw 1 (m:=18) U U U U U (Enc.len ..) (Enc.allL ..))<|Zw0<|Zy U<|Znr ?_;refine Zfx [2] (HC (b:=bg) (x:=x)) U ?_
  refine Zfx [1,2,2,0] (Ad (b:=b) (d:=⟨id_,n,ways,L,ask,some x⟩) ok) U<|Zre (.wh 1 (m:=18) U U (Enc.len ..) (.t U .n)) hS [0] 1 U U U U
theorem Qx (fine:Bool) (why:Int):Sp Tryz.prog 231 [.bool fine,.int .i64 why] [] fun K=>(fine=true→K (.returned (.tuple #[])) [])∧(fine=false→K (.panicked (LD (.iface 348 (.agg #[.int .i64 why])))) []):=by
 cases fine
 ·refine Zen Tryz.func231 U U U fun e X Φ hS=>Zsr<|Zb 2 U<|Zn<|Zct U<|Zrg<|Zm U<|Zv (yb bF U) ?_;refine Zv (ymi Tryz.underlying348 U U)<|Zpn U ?_;refine Zpe (hS.2 U) [] 0 U U
 ·refine Zen Tryz.func231 U U U fun e X Φ hS=>Zsr<|Zb 2 U<|Zn<|Zcf U<|Zsk<|Zee ?_;refine Zre .n (hS.1 U) [] 0 U U U U
theorem RO (fine:Bool) (why:Int) (h:fine=false):Sp Tryz.prog 231 [.bool fine,.int .i64 why] [] fun K=>K (.panicked (LD (.iface 348 (.agg #[.int .i64 why])))) []:=by subst h;refine Zen Tryz.func231 U U U fun e X Φ hS=>Zsr<|Zb 2 U<|Zn<|Zct U<|Zrg<|Zm U<|Zv (yb bF U) ?_;refine Zv (ymi Tryz.underlying348 U U)<|Zpn U ?_;refine Zpe hS [] 0 U U
theorem Lf (b:Nat) (i kind num:Int) (hn:U32 num) (v1 v2 v3:Value):Sp Tryz.prog 232 [pt b,.int .i64 kind,.int .u32 num] [.blk b 155 [.int .i64 i,v1,v2,v3]] fun K=>K (.returned (.agg (Al.arr (mkM kind i 4 num AE hn)))) [.blk b 155 [.int .i64 i,v1,v2,v3]]:=by refine Zen Tryz.func232 U U U fun e X Φ hS=>Zsr<|Ze (eal Iy) fun b6=>Zw<|Zns<|Za 4 [0] U U ?_;refine Za 2 [1] U U<|Zv (yb Vq U)<|Ze (esw 0 (m:=20) U U U U U U U)<|Zw0<|Znr<|Zre (.wh 0 (m:=20) U U U .n) hS [1] 1 U U U U
def Cm (addr width:Int):Bool:=(decide (width=1) || decide (width=2) || decide (width=4)) && decide (addr%width=0)
theorem JQ {addr width:Int} (h:Cm addr width=true):1≤width∧width≤4∧addr%16+width≤16:=by simp[Cm] at h;obtain⟨(h1|h1)|h1,h2⟩:=h<;>subst h1<;>omega
theorem UQ (addr width:Int) (ha:U32 addr):Sp Tryz.prog 221 [.int .u32 addr,.int .i64 width] [] fun K=>K (.returned (.tuple #[.int .u32 (addr/16),.int .i64 (addr%16),.bool (Cm addr width)])) []:=by
 have ha':=ha;unfold U32 at ha';refine Zen Tryz.func221 U U U fun e X Φ hS=>Zsr<|Zb 3 U<|Zns<|Zb 2 U ?_;refine Zm U<|Zgs U U (fun h10=>?_) (fun h10=>?_);refine Zu' U U (dT h10) U<|Zu' U U (dT h10) U<|Zv (Ax U (dT h10) U)<|Zb 6 U ?_;refine Zb 1 U<|Zg U U<|Zv (ymx U U U)<|Zg U U<|Zv (ycv Tryz.underlying3 Tryz.underlying40 U (F3 U (by omega)))<|Zg U U<|Zv (Cc U U (by omega) U)<|Zb 1 U ?_;refine Zb 2 U<|Zns<|Zm U<|Zv (HV U U (by decide) U)<|Zm U<|Zv (Cc U U (by decide) U)<|Zv (ycv Tryz.underlying40 Tryz.underlying3 U U) ?_;refine Zb 4 U<|Znr<|Zre (.t U (.t U (.t U .n))) hS [] 0 ?_ U U U
 rotate_left;refine Zg' U U (dF h10)<|Zm U<|Zg' U U (dF h10)<|Zv (yeq U U)<|Zv (Ao U (dF h10) U)<|Zm U<|Zgs U U (fun h14=>?_) (fun h14=>?_);refine Zu' U U (dT h14) U<|Zu' U U (dT h14) U<|Zv (Ax U (dT h14) U)<|Zb 3 U<|Zg U U<|Zv (ymx U U U) ?_;refine Zg U U<|Zv (ycv Tryz.underlying3 Tryz.underlying40 U (F3 U (by omega)))<|Zg U U<|Zv (Cc U U (by omega) U)<|Zb 3 U<|Zn ?_;refine Zsr<|Zm U<|Zv (HV U U (by decide) U)<|Zm U<|Zv (Cc U U (by decide) U)<|Zv (ycv Tryz.underlying40 Tryz.underlying3 U U)<|Zb 4 U ?_;refine Znr<|Zre (.t U (.t U (.t U .n))) hS [] 0 ?_ U U U;rotate_left
 refine Zg' U U (dF h14)<|Zm U<|Zg' U U (dF h14)<|Zv (yeq U U)<|Zv (Ao U (dF h14) U)<|Zm U<|Zgs U U (fun h18=>?_) (fun h18=>?_);refine Zg' U U (dT h18)<|Zm U<|Zg' U U (dT h18)<|Zm U<|Zg' U U (dT h18)<|Zv (ymx U U U)<|Zg' U U (dT h18)<|Zv (ycv Tryz.underlying3 Tryz.underlying40 U (F3 U (by omega)))<|Zg' U U (dT h18)<|Zv (Cc U U (by omega) U) ?_;refine Zg' U U (dT h18)<|Zv (yeq U U)<|Zv (Ax U (dT h18) U)<|Zy U<|Zns<|Zm U<|Zv (HV U U (by decide) U)<|Zm U ?_
 refine Zv (Cc U U (by decide) U)<|Zv (ycv Tryz.underlying40 Tryz.underlying3 U U)<|Zb 4 U<|Znr<|Zre (.t U (.t U (.t U .n))) hS [] 0 ?_ U U U;rotate_left;refine Zu' U U (dF h18) U<|Zu' U U (dF h18) U<|Zu' U U (dF h18) U<|Zu' U U (dF h18) U<|Zu' U U (dF h18) U<|Zu' U U (dF h18) U<|Zv (Ao U (dF h18) U)<|Zy U<|Zn ?_;refine Zsr<|Zm U<|Zv (HV U U (by decide) U)<|Zm U<|Zv (Cc U U (by decide) U)<|Zv (ycv Tryz.underlying40 Tryz.underlying3 U U)<|Zb 4 U ?_;refine Znr<|Zre (.t U (.t U (.t U .n))) hS [] 0 ?_ U U U;rotate_left
 all_goals rw[Int.tdiv_eq_ediv_of_nonneg ha.1,Int.tmod_eq_emod_of_nonneg ha.1,F3 (r:=addr/16) rfl (by omega),Ar (r:=addr%16) rfl (by omega)]
 ·subst h10;simp[Cm,pk,Int.tmod_eq_emod_of_nonneg ha.1,show max (2:Int) 1=2 from rfl,show max (4:Int) 1=4 from rfl]
 ·subst h14;simp[Cm,pk,Int.tmod_eq_emod_of_nonneg ha.1,show max (2:Int) 1=2 from rfl,show max (4:Int) 1=4 from rfl]
 ·subst h18;simp[Cm,pk,Int.tmod_eq_emod_of_nonneg ha.1,show max (2:Int) 1=2 from rfl,show max (4:Int) 1=4 from rfl]
 ·simp[Cm,pk,h10,h14,h18]
def rdR (bs:List Int) (p:Nat):Nat→Int
 | 0=>0
 | i+1=>w32 (BitVec.ofInt 32 (rdR bs p i) ||| BitVec.ofInt 32 (w32 (bs.getD (p+i) 0*2 ^ min (8*i) 32))).toNat
theorem Vi {l:List Int} (h:∀a∈l,0≤a∧a<256) (j:Nat):0≤l.getD j 0∧l.getD j 0<256:=by
 by_cases hj:j<l.length
 ·have e:l.getD j 0=l[j]:=by simp[List.getD,hj]
  rw[e];exact h _ (List.getElem_mem hj)
 ·have e:l.getD j 0=0:=by simp[List.getD,List.getElem?_eq_none (show l.length≤j by omega)]
  rw[e];omega
def by8 (v:Int) (i:Nat):Int:=IntKind.u8.wrap (v.fdiv (2 ^ min (8*i) 32))
theorem cM (x:Int):0≤IntKind.u8.wrap x∧IntKind.u8.wrap x<256:=by simp[IntKind.wrap,IntKind.signed,IntKind.bits];omega
def wrL (bs:List Int) (p:Nat) (v:Int):Nat→List Int
 | 0=>bs
 | i+1=>(wrL bs p v i).set (p+i) (by8 v i)
theorem Ql (bs:List Int) (p:Nat) (v:Int):∀i,(wrL bs p v i).length=bs.length
 | 0=>rfl
 | i+1=>by rw[wrL,List.length_set,Ql]
theorem Uk {bs:List Int} (h:∀a∈bs,0≤a∧a<256) (p:Nat) (v:Int):∀i,∀a∈wrL bs p v i,0≤a∧a<256
 | 0=>h
 | i+1=>fun a ha=>by
  rcases List.mem_or_eq_of_mem_set ha with ha|rfl
  ·exact Uk h p v i a ha
  ·exact cM _
def wrB (b:B16) (p:Nat) (v:Int) (i:Nat):B16:=⟨wrL b.1 p v i,by rw[Ql];exact b.2.1,Uk b.2.2 p v i⟩
theorem VA (x:Ln) {j:Nat} (hj:j<16):nth (lnE.cells x) (2+j)=some (.int .u8 (x.bs.1.getD j 0)):=by have hl:=x.bs.2.1;rw[A7];show(Ln.cells x)[2+j]? = _;rw[Nat.add_comm];simp[Ln.cells,List.getD,List.getElem?_eq_getElem (show j<x.bs.1.length by omega)]
def Ln.wr (x:Ln) (p:Nat) (v:Int) (i:Nat):Ln:=⟨x.num,x.state,wrB x.bs p v i,x.hn⟩
theorem VI (x:Ln) (p i:Nat) (v:Int) (hj:p+i<16):put (lnE.cells (x.wr p v i)) (2+(p+i)) (.int .u8 (by8 v i))=some (lnE.cells (x.wr p v (i+1))):=by rw[Dz _ _ _ (by rw[lnE.len];show _<18;omega)];show some ((Ln.cells _).set (2+(p+i)) _)=some (Ln.cells _);rw[Nat.add_comm 2];simp[Ln.cells,Ln.wr,wrB,wrL,List.map_set]
def B8 (L:List Ln) (addr width:Int):Int × Int:=
 if Cm addr width=false then(0,2) else match AI L (addr/16) with
  | none=>(0,232)
  | some x=>(rdR x.bs.1 (addr%16).toNat width.toNat,0)
theorem ZK (b:Nat) (d:CD) (addr width:Int) (ha:U32 addr):Sp Tryz.prog 252 [pt b,.int .u32 addr,.int .i64 width] [.hp (AK b d)] fun K=>K (.returned (.tuple #[.int .u32 (B8 d.L addr width).1,.int .i64 (B8 d.L addr width).2])) [.hp (AK b d)]:=by
 have hn:U32 (addr/16):=by unfold U32 at *;omega
 cases hr:Cm addr width with
 | false=>
  rw[show B8 d.L addr width=(0,2) from if_pos hr];refine Zen Tryz.func252 U U U fun e X Φ hS=>Zoc 0 Bc U<|fun ok lb pa pg hha hg=>Zsr<|Zb 2 U<|Aj<|Zm U<|Zk (c59 ..) [0] U U ?_;refine Zq<|Zn<|Zcf U<|Zks<|Zb 2 U ?_;refine Zk (UQ addr width ha) [] U U<|Zq<|Zb 7 U<|Znl ?_;refine Zxq<|Zsr<|Zb 2 U<|Zn<|DF U (congrArg Bool.not hr)<|Zsr<|Zy U ?_;refine Zy U<|Znr<|Zr1 ?_;refine Zfx [0,0,0,0] (Ad (b:=b) (d:=d) ok) U<|Zre (.t U (.t U .n)) hS [0] 0 U U U U
 | true=>
  obtain⟨w1,w2,w3⟩:=JQ hr;obtain⟨p,hp⟩:∃p:Nat,addr%16=p:=⟨(addr%16).toNat,by omega⟩
  obtain⟨wd,rfl⟩:∃wd:Nat,width=wd:=⟨width.toNat,by omega⟩
  refine Zen Tryz.func252 U U U fun e X Φ hS=>Zoc 0 Bc U<|fun ok lb pa pg hha hg=>?_;refine Zsr<|Zb 2 U<|Aj<|Zm U<|Zk (c59 ..) [0] U U<|Zq ?_;refine Zn<|Zcf U<|Zks<|Zb 2 U ?_;refine Zk (UQ addr wd ha) [] U U<|Zq<|Zb 7 U<|Znl ?_;refine Zxq<|Zsr<|Zb 2 U<|Zn<|Df U (congrArg Bool.not hr)<|Zkn ?_;refine Zsr<|Za 5 [1,0] U U ?_;refine Zk (Pg lb d.n d.ways (addr/16) d.L (by have:=ok.w0;omega) hn (Nat.le_trans ok.len (by decide))) [1] U U<|Zq<|Zb 3 U<|Ze (eal Fd) fun b11=>Zw<|Ze (esw 0 (m:=18) U U U U U (Enc.len ..) (Enc.allL ..))<|Zw0<|Zy U<|Zn ?_
  refine Zsq<|Zsr<|Zb 2 U<|Zn<|Zib U (fun h36=>?_) (fun h36=>?_);refine Zsr<|Zb 2 U<|Znr<|Zr1 ?_;rotate_left;refine Zks<|Zy U<|Aj<|Zb 2 U ?_;refine Znb ?_;rotate_left
  ·have hx:AI d.L (addr/16)=none:=by simpa using h36
   rw[show B8 d.L addr wd=(0,232) by unfold B8;rw[hr,hx];rfl] at hS;refine Zfx [2,1,1,1] (Ad (b:=b) (d:=d) ok) U<|Zre (.t U (.t U .n)) hS [0] 1 U U U U
  ·obtain⟨x,hx⟩:∃x,AI d.L (addr/16)=some x:=by
    cases hq:AI d.L (addr/16) with
    | none=>rw[hq] at h36;cases h36
    | some x=>exact⟨x,rfl⟩
   have e1:B8 d.L addr wd=(rdR x.bs.1 p wd,0):=by unfold B8;rw[hr,hx,hp];rfl
   have e2:Cj d.L (addr/16)=x:=by unfold Cj;rw[hx];rfl
   rw[e1] at hS;rw[e2,hp];rw[hp] at w3;refine Zlq (ι:={ i:Nat // i≤wd }) (fun i=>[(38,.int .i64 (i.1:Int)),(37,.int .i64 (wd:Int)),(13,.int .u32 (rdR x.bs.1 p i.1)),(11,pt b11),(9,.int .i64 (p:Int))]) (fun i=>[.blk b11 145 (lnE.cells x)]) (fun i=>wd-i.1) ⟨0,by omega⟩ ⟨U,U,U,U,U,trivial⟩ [0] U fun i=>Zsr<|Zv (ylt U U)<|Znq<|Zif U (fun h39=>?_) (fun h39=>?_);refine Zkn<|Zsq<|Zbl<|Zsr<|Zb 2 U<|Zn<|Zrg ?_;refine Zb 3 U<|Zv (Ac U U (Ar U (by omega)))<|Zv (yf 2 U)<|Zv (yai Tryz.underlying115 U U (by omega)) ?_;rotate_left;refine Zex<|Zxt<|Zxt<|Zxx<|Zxs<|Zb 3 U<|Znl ?_;refine Zxr ?_
   rotate_left
   ·have hb:=Vi x.bs.2.2 (p+i.1);refine Zv (yd 0 U U (VA x (j:=p+i.1) (by omega)))<|Zv (ycv Tryz.underlying5 Tryz.underlying40 U (F3 U (by omega)))<|Zm U<|Zv (AD U U (Ar U (by omega)))<|Zv (FF U U (by omega) U)<|Zv (yor U U U)<|Zy U<|Znl<|Zxn<|Znx ?_;refine Zrg<|Zv (Ac U U (Ar U (by omega)))<|Zm U<|Znl ?_;refine Zlr ⟨i.1+1,by omega⟩ (by show wd-(i.1+1)<wd-i.1;omega) ⟨U,U,U,U,U,trivial⟩ [0] 0 U U
   ·have hi:i.1=wd:=by have:=i.2;omega
    rw[hi];refine Zfx [2,1,1,1] (Ad (b:=b) (d:=d) ok) U<|Zre (.t U (.t U .n)) hS [0] 1 U U U U
def Ep (x:Ln) (addr width v:Int):Ln:=(x.wr (addr%16).toNat v width.toNat).st 3
def AQ (d:CD) (addr width v:Int):CD × Int:=
 if Cm addr width=false then(d,2) else if Ap (stateOf d.L (addr/16))=false then(d,232)
 else(d.setL (putL d.n d.ways d.L (Ep (Cj d.L (addr/16)) addr width v)),Cu d.n d.ways d.L (Ep (Cj d.L (addr/16)) addr width v))
theorem CD.Ok.put {d:CD} (h:d.Ok) (l:Ln):(d.setL (putL d.n d.ways d.L l)).Ok:={ h with un:=h.un.putL,fit:=h.fit.putL l }
theorem CD.Ok.drop {d:CD} (h:d.Ok) (num:Int):(d.setL (dropL d.L num)).Ok:={ h with un:=h.un.drop num,fit:=h.fit.drop num }
theorem W4 (b:Nat) (d:CD) (addr width v:Int) (ha:U32 addr):Sp Tryz.prog 187 [pt b,.int .u32 addr,.int .i64 width,.int .u32 v] [.hp (AK b d)] fun K=>K (.returned (.int .i64 (AQ d addr width v).2)) [.hp (AK b (AQ d addr width v).1)]:=by
 have hn:U32 (addr/16):=by unfold U32 at *;omega
 cases hr:Cm addr width with
 | false=>
  rw[show AQ d addr width v=(d,2) from if_pos hr];refine Zen Tryz.func187 U U U fun e X Φ hS=>Zoc 0 Bc U<|fun ok lb pa pg hha hg=>Zsr<|Zy U<|Aj<|Zm U<|Zk (c59 ..) [0] U U<|Zq ?_;refine Zn<|Zcf U<|Zks<|Zb 2 U ?_;refine Zk (UQ addr width ha) [] U U<|Zq<|Zb 7 U<|Znl ?_;refine Zxq<|Zsr<|Zb 2 U<|Zn<|DF U (congrArg Bool.not hr)<|Zsr<|Zy U ?_;refine Znr<|Zr1 ?_;refine Zfx [0,0,0,0] (Ad (b:=b) (d:=d) ok) U<|Zre (.t U .n) hS [0] 0 U U U U
 | true=>
  obtain⟨w1,w2,w3⟩:=JQ hr;obtain⟨p,hp⟩:∃p:Nat,addr%16=p:=⟨(addr%16).toNat,by omega⟩
  obtain⟨wd,rfl⟩:∃wd:Nat,width=wd:=⟨width.toNat,by omega⟩
  refine Zen Tryz.func187 U U U fun e X Φ hS=>Zoc 0 Bc U<|fun ok lb pa pg hha hg=>?_;refine Zsr<|Zy U<|Aj<|Zm U<|Zk (c59 ..) [0] U U<|Zq<|Znl ?_;refine Znx<|Zcf U<|Zks<|Zb 2 U ?_;refine Zk (UQ addr wd ha) [] U U<|Zq<|Zb 7 U<|Znl ?_;refine Zxq<|Zsr<|Zb 2 U<|Zn<|Df U (congrArg Bool.not hr)<|Zkn ?_;refine Zsr<|Za 5 [1,0] U U ?_;refine Zk (Pg lb d.n d.ways (addr/16) d.L (by have:=ok.w0;omega) hn (Nat.le_trans ok.len (by decide))) [1] U U<|Zq<|Zb 3 U<|Ze (eal Fd) fun b12=>Zw<|Ze (esw 0 (m:=18) U U U U U (Enc.len ..) (Enc.allL ..))<|Zw0<|Zy U<|Zn ?_
  refine Zsq<|Zsr<|Za 2 [1,0] U U<|Zk (RN ..) [] U U<|Zq<|Zv (BM U)<|Zn<|Zib U (fun h38=>?_) (fun h38=>?_);refine Zsr<|Zy U<|Znr<|Zr1 ?_;rotate_left;refine Zkn<|Zsq<|Zsr<|Zb 2 U<|Znb ?_;rotate_left
  ·have hx:Ap (stateOf d.L (addr/16))=false:=by simpa[stateOf] using h38
   have e1:AQ d addr wd v=(d,232):=by unfold AQ;rw[if_neg (by simp[hr]),if_pos hx]
   rw[e1] at hS;refine Zfx [2,1,1,1] (Ad (b:=b) (d:=d) ok) U<|Zre (.t U .n) hS [0] 1 U U U U
  ·have hx:¬Ap (stateOf d.L (addr/16))=false:=by
    have:Ap (stateOf d.L (addr/16))=true:=by simpa[stateOf] using h38
    simp[this]
   have e1:AQ d addr wd v=(d.setL (putL d.n d.ways d.L (Ep (Cj d.L (addr/16)) addr wd v)),Cu d.n d.ways d.L (Ep (Cj d.L (addr/16)) addr wd v)):=by unfold AQ;rw[if_neg (by simp[hr]),if_neg hx]
   generalize hxx:Cj d.L (addr/16)=x at *;have e3:Ep x addr wd v=(x.wr p v wd).st 3:=by unfold Ep;rw[hp];rfl
   rw[e3] at e1;rw[e1] at hS;have hp':addr%16=(p:Int):=hp;rw[hp];rw[hp] at w3;refine Zlq (ι:={ i:Nat // i≤wd }) (fun i=>[(40,.int .i64 (i.1:Int)),(39,.int .i64 (wd:Int)),(12,pt b12),(10,.int .i64 (p:Int)),(3,.int .u32 v),(0,pt b)]) (fun i=>[.blk b12 145 (lnE.cells (x.wr p v i.1))]) (fun i=>wd-i.1) ⟨0,by omega⟩ ⟨U,U,U,U,U,U,trivial⟩ [0] U fun i=>Zsr<|Zv (ylt U U)<|Znq<|Zif U (fun h41=>?_) (fun h41=>?_);refine Zkn<|Zsq<|Zbl<|Zsr<|Zb 2 U<|Zn<|Zrg ?_
   refine Zb 2 U<|Zv (Ac U U (Ar U (by omega)))<|Zb 2 U<|Zv (AD U U (Ar U (by omega)))<|Zv (Mh U U (by omega) U)<|Zv (ycv Tryz.underlying40 Tryz.underlying5 U U)<|Zv (yf 2 U)<|Zv (yai Tryz.underlying115 U U (by omega)) ?_;rotate_left;refine Zex<|Zxt<|Zxt<|Zxx<|Zxs<|Zv (yf 1 U)<|Ze (es 0 U U U (WA _ _) U)<|Zw0<|Zn ?_;refine Zsq ?_;rotate_left
   ·refine Ze (es 0 U U U (VI x p i.1 v (by omega)) U)<|Zw0<|Znl<|Zxn<|Znx<|Zrg<|Zv (Ac U U (Ar U (by omega)))<|Zm U<|Znl ?_;refine Zlr ⟨i.1+1,by omega⟩ (by show wd-(i.1+1)<wd-i.1;omega) ⟨U,U,U,U,U,U,trivial⟩ [0] 0 U U
   ·have hi:i.1=wd:=by have:=i.2;omega
    rw[hi];refine Zhd [1] U U<|Zht 0 U (ym U)<|Zht 1 U (yn U)<|Zht 2 U (yf 1 U)<|Zht 3 U (yd 1 U U U)<|Zht 4 U (ydw 0 (m:=18) U U (Enc.len ..)) ?_;refine ZH1 5<|Zok (UR lb d.n d.ways d.L ((x.wr p v wd).st 3) (by have:=ok.w0;omega) (Nat.le_trans ok.len (by decide))) [0] U U U<|Zqh 1 U<|Zht 6 U (ya U)<|ZHn<|Zxr ?_;have ok':=ok.put ((x.wr p v wd).st 3);refine Zfx [2,0,1,1] (Ad (b:=b) (d:=d.setL (putL d.n d.ways d.L ((x.wr p v wd).st 3))) ok') U<|Zre (.t U .n) hS [0] 1 U U U U
def D8 (i line:Int) (wr:Bool) (h:U32 line):Msg:=mkM (if wr then 2 else 1) i 4 line AE h
def It (i:Int) (x:Ln):Msg:=mkM 3 i 4 x.num x.bs x.hn
def CD.setG (d:CD) (L:List Ln) (g:Option Ln):CD:=⟨d.id,d.n,d.ways,L,d.ask,g⟩
def CD.setA (d:CD) (a:Option (Int × Bool)):CD:=⟨d.id,d.n,d.ways,d.L,a,d.giv⟩
def outF (d:CD) (x:Ln):CD × List Msg × Bool:=
 if x.state=1 then(d.setL (dropL d.L x.num),[],true)
 else match d.giv with
  | some _=>(d,[],false)
  | none=>(d.setG (dropL d.L x.num) (some x),[It d.id x],true)
theorem CD.Ok.setG {d:CD} (h:d.Ok) (num:Int) (g:Option Ln):(d.setG (dropL d.L num) g).Ok:={ h with un:=h.un.drop num,fit:=h.fit.drop num }
theorem CD.Ok.setA {d:CD} (h:d.Ok) (l:Int) (wr:Bool) (hl:U32 l):(d.setA (some (l,wr))).Ok:={ h with ask:=fun l' wr' e=>by cases e;exact hl }
theorem X2 {d:CD} (h:d.Ok) (x:Ln):(outF d x).1.Ok:=by
 unfold outF;split
 ·exact h.drop _
 ·split
  ·exact h
  ·exact h.setG _ _
theorem GY {p:Option Addr} {α:Type} {g:Option α} (h:p.isSome=g.isSome) (hg:g=none):p=none:=by
 subst hg;cases p with
 | none=>rfl
 | some a=>cases h
theorem Zt (b:Nat) (d:CD) (x:Ln):Sp Tryz.prog 201 [pt b,.agg (lnE.arr x)] [.hp (AK b d)] fun K=>∀A cap,K (.returned (.tuple #[.slice A (outF d x).2.1.length cap,.bool (outF d x).2.2])) [.hp (own Al A cap (outF d x).2.1),.hp (AK b (outF d x).1)]:=by
 have hn:=x.hn;by_cases h1:x.state=1
 ·have e1:outF d x=(d.setL (dropL d.L x.num),[],true):=if_pos h1;rw[e1];refine Zen Tryz.func201 U U U fun e X Φ hS=>Zoc 0 Bc U<|fun ok lb pa pg hha hg=>?_;refine Zsr<|Ze (A8 U) fun b3=>Zw<|Zb 2 U<|Aj<|Za 2 [1,0] U U ?_;refine Zv (yeq U U)<|Zn<|DF U (dT h1)<|Zsq ?_;refine Zhd [2] U U<|Zht 0 U (ym U)<|Zht 1 U (yn U)<|Zht 2 U (yf 1 U)<|Zht 3 U (yd 1 U U U)<|Zht 4 U (yf 0 U)<|Zht 5 U (yd 0 U U U) ?_;refine ZH1 6<|Zok (UT lb d.n d.ways x.num d.L (by have:=ok.w0;omega) hn ok.un (Nat.le_trans ok.len (by decide))) [0] U U U<|Zqh 1 U<|ZHn<|Zxs<|Zb 2 U<|Znr ?_;refine Zr1 ?_
  have ok':=ok.drop x.num;refine Zfx [2,0,1,1] (Ad (b:=b) (d:=d.setL (dropL d.L x.num)) ok') U ?_;refine Zix (fun _ hs=>Ag (E:=Al) hs)<|Zre (.t U (.t U .n)) (hS _ _) [0,0] 1 U U U U
 ·cases hgv:d.giv with
  | some y=>
   have e1:outF d x=(d,[],false):=by unfold outF;rw[if_neg h1,hgv]
   rw[e1];refine Zen Tryz.func201 U U U fun e X Φ hS=>Zoc 0 Bc U<|fun ok lb pa pg hha hg=>?_;have hg':pg.isSome=true:=by rw[hg,hgv];rfl
   refine Zsr<|Ze (A8 U) fun b3=>Zw<|Zb 2 U<|Aj<|Za 2 [1,0] U U ?_;refine Zv (yeq U U)<|Zn<|Df U (dF h1)<|Zkn<|Zsq<|Zsr<|Zb 2 U ?_;refine Za 2 [3,1] U U<|Zv (DN U U U)<|Zn<|DF U hg'<|Zsr<|Zb 2 U<|Znl ?_;refine Zxr<|Zr1 ?_;refine Zfx [1,1,1,1] (Ad (b:=b) (d:=d) ok) U ?_;refine Zix (fun _ hs=>Ag (E:=Al) hs)<|Zre (.t U (.t U .n)) (hS _ _) [0,0] 1 U U U U
   | none=>
   have e1:outF d x=(d.setG (dropL d.L x.num) (some x),[It d.id x],true):=by unfold outF;rw[if_neg h1,hgv]
   rw[e1];refine Zen Tryz.func201 U U U fun e X Φ hS=>Zoc 0 Bc U<|fun ok lb pa pg hha hg=>?_;have hg':pg=none:=GY hg hgv;subst hg';refine Zsr<|Ze (A8 U) fun b3=>Zw<|Zb 2 U<|Aj<|Za 2 [1,0] U U ?_;refine Zv (yeq U U)<|Zn<|Df U (dF h1)<|Zkn<|Zsq<|Zsr<|Zb 2 U ?_;refine Za 2 [3,1] U U<|Zv (DN U U U)<|Zn<|Zcf U<|Zkn<|Zsq ?_;refine Zhd [2] U U<|Zht 0 U (ym U)<|Zht 1 U (yn U)<|Zht 2 U (yf 1 U)<|Zht 3 U (yd 1 U U U)<|Zht 4 U (yf 0 U)<|Zht 5 U (yd 0 U U U) ?_
   refine ZH1 6<|Zok (UT lb d.n d.ways x.num d.L (by have:=ok.w0;omega) hn ok.un (Nat.le_trans ok.len (by decide))) [0] U U U<|Zqh 1 U<|ZHn<|Zxs<|Za 3 [3] U U<|Ze (es 2 U U U U U)<|Zw0<|Znl ?_;refine Zxs<|Za 3 [0,1] U U ?_;refine Zk (Lf b d.id 3 x.num hn (pt lb) (.pointer pa) (pt b3)) [2] U U<|Zq<|Ze (eal Iy) fun b6=>Zw<|Ze (esw 0 (m:=20) U U U U U (Enc.len ..) (Enc.allL ..))<|Zw0<|Zns<|Zv (yf 2 U)<|Zv (yda 3 (m:=16) U U (LA _) (Enc.len ..))<|Zv (yf 4 U) ?_
   refine Ze (esc 0 (m:=16) U U U (LF _ _) U (Enc.len ..) (by rw[Enc.len];decide) (Enc.allL ..))<|Zw0<|Zns<|Zv (ydw 0 (m:=20) U U (Enc.len ..))<|Ze (eb1 BZ (by decide) U) fun A40=>Zw<|Zb 2 U<|Zn ?_;refine Zrt ?_;have ok':=ok.setG x.num (some x);refine Zfx [4] (HC (b:=b3) (x:=x)) U ?_;refine Zfx [3,3,3,0] (Ad (b:=b) (d:=d.setG (dropL d.L x.num) (some x)) ok') U<|Zre (.t U (.t U .n)) (hS _ _) [1,0] 2 U U U U
theorem c23 (b:Nat) (d:CD):Sp Tryz.prog 23 [pt b] [.hp (AK b d)] fun K=>∀A cap,K (.returned (.slice A (allL d.n d.L).length cap)) [.hp (own lnE A cap (allL d.n d.L)),.hp (AK b d)]:=by
 refine Zen Tryz.func23 U U U fun e X Φ hS=>Zoc 0 Bc U<|fun ok lb pa pg hha hg=>?_;have hl:=ok.len;have hl2:=Fe ok.n0 d.L;refine Zsr<|Zy U<|Aj<|Zm U<|Zk (c59 ..) [0] U U<|Zq<|Znl ?_;refine Znx<|Zcf U<|Zks<|Za 4 [1,0] U U ?_;refine Zk (c61 lb d.n d.ways d.L (by have:=ok.w0;omega) (by omega)) [1] U U<|fun b1=>fun b'=>Zq ?_;refine Zfl [1,0] (p:=Sep [.hp (AY b' d.n d.ways d.L),.blk b1 151 [pt b']]) (fun _ h=>h) U ?_;refine Zk (c60 (kH b' b1 d.n d.ways d.L (by omega)).one (by omega) (by kernel_rfl)) [0] U U<|fun A=>fun cap=>Zq<|Zy U<|Znr ?_
 refine Zfx [2,1,1,1] (Ad (b:=b) (d:=d) ok) U<|Zre (.t U .n) (hS _ _) [1,0] 0 U U U U
theorem RX {b:Nat} {d:CD}:Op_ (AK b d) fun K=>d.Ok→K [.hp (AK b d)] := .mk fun G k h hh=>⟨_,k hh.1,BN hh⟩
def evictF (d:CD) (pick:Int):CD × List Msg:=if d.L=[] then(d,[]) else((outF d ((allL d.n d.L).getD (Am pick d.L.length) ln0)).1,(outF d ((allL d.n d.L).getD (Am pick d.L.length) ln0)).2.1)
theorem eU (b:Nat) (d:CD) (pick:Int) (hp : -9223372036854775808≤pick∧pick≤9223372036854775807):Sp Tryz.prog 144 [pt b,.int .i64 pick] [.hp (AK b d)] fun K=>∀A cap,K (.returned (.slice A (evictF d pick).2.length cap)) [.hp (own Al A cap (evictF d pick).2),.hp (AK b (evictF d pick).1)]:=by
 refine Zen Tryz.func144 U U U fun e X Φ hS=>Zoc 0 RX U<|fun ok=>?_;have hl:=ok.len;have hl2:=Fe ok.n0 d.L;refine Zsr<|Zy U<|Zns<|Zm U<|Zk (c23 ..) [0] U U<|fun A=>fun cap=>Zq ?_;refine Zy U<|Aj<|Zm U<|Zv (Aw ⟨_,Tryz.underlying79⟩ U)<|Zv (yeq U U)<|Zn ?_;refine Zif U (fun h12=>?_) (fun h12=>?_);refine Zsr<|Zy U<|Znr<|Zr1 ?_;rotate_left;refine Zks<|Zb 4 U<|Zv (Aw ⟨_,Tryz.underlying79⟩ U)<|Zv (Cc U U (by assumption) U)<|Zm U ?_;refine Zv (Aw ⟨_,Tryz.underlying79⟩ U)<|Zv (Ac U U U)<|Zm U<|Zv (Aw ⟨_,Tryz.underlying79⟩ U)<|Zv (Cc U U (by assumption) U) ?_;rotate_left
 ·have h0:d.L=[]:=List.length_eq_zero_iff.1 (by omega);have e1:evictF d pick=(d,[]):=if_pos h0;rw[e1] at hS;refine Zix (fun _ hs=>Ag (E:=Al) hs)<|Zre (.t U .n) (hS _ _) [0,1] 1 U U U U
 ·have h0:¬d.L=[]:=fun h=>h12 (by rw[hl2,h];rfl);have e1:evictF d pick=((outF d ((allL d.n d.L).getD (Am pick d.L.length) ln0)).1,(outF d ((allL d.n d.L).getD (Am pick d.L.length) ln0)).2.1):=if_neg h0;rw[e1] at hS;obtain⟨p1,p2,p3,p4⟩:=G2 pick (n:=(allL d.n d.L).length) (by omega);have e2:IntKind.i64.wrap (pick.tmod (allL d.n d.L).length+(allL d.n d.L).length)=pick.tmod (allL d.n d.L).length+(allL d.n d.L).length:=Ar rfl (by omega);have e3:(allL d.n d.L).getD (Am pick d.L.length) ln0=(allL d.n d.L)[Am pick (allL d.n d.L).length]:=by rw[←hl2];simp[List.getD,p2]
  rw[e3] at hS;rw[e2,p1];refine Zv (yea 0 own.rd U U U (by first|assumption|omega) U Tryz.underlying79 U)<|Zv (yel 0 own.rd U (gE (by first|assumption|omega)) U U U)<|Zk (Zt ..) [1] U U<|fun A_1=>fun cap_1=>Zq<|Zb 4 U ?_;refine Zy U<|Zns<|Zb 2 U<|Znr<|Zre (.t U .n) (hS _ _) [0,0] 1 U U U U
def mine (g:Option Ln) (line:Int):Bool:=match g with|some x=>decide (x.num=line)|none=>false
def askF (d:CD) (line:Int) (h:U32 line) (wr:Bool) (pick:Int):CD × List Msg × Int:=
 if d.ask.isSome=true∨mine d.giv line=true then(d,[],230)
 else if stateOf d.L line≠0∧(wr=false∨Ap (stateOf d.L line)=true) then(d,[],231)
 else match HT d.n d.ways d.L line pick with
  | none=>(d.setA (some (line,wr)),[D8 d.id line wr h],0)
  | some x=>if(outF d x).2.2=true then((outF d x).1.setA (some (line,wr)),(outF d x).2.1++[D8 d.id line wr h],0) else(d,[],230)
theorem X1 {d:CD} {x:Ln} (h:(outF d x).2.2=false):outF d x=(d,[],false):=by
 unfold outF at *;split
 ·rename_i h1;rw[if_pos h1] at h;cases h
 ·rename_i h1;rw[if_neg h1] at h;cases hg:d.giv with
  | none=>rw[hg] at h;cases h
  | some y=>rfl
theorem VG (d:CD) (x:Ln):(outF d x).2.1.length≤1:=by
 unfold outF;split
 ·simp
 ·split<;>simp
theorem Th (d:CD) (x:Ln):(outF d x).1.id=d.id:=by
 unfold outF;split
 ·rfl
 ·split<;>rfl
theorem fY (b:Nat) (d:CD) (line pick:Int) (wr:Bool) (h:U32 line) (hp : -9223372036854775808≤pick∧pick≤9223372036854775807):Sp Tryz.prog 224 [pt b,.int .u32 line,.bool wr,.int .i64 pick] [.hp (AK b d)] fun K=>∀A cap,K (.returned (.tuple #[.slice A (askF d line h wr pick).2.1.length cap,.int .i64 (askF d line h wr pick).2.2])) [.hp (own Al A cap (askF d line h wr pick).2.1),.hp (AK b (askF d line h wr pick).1)]:=by
 refine Zen Tryz.func224 U U U fun e X Φ hS=>Zoc 0 Bc U<|fun ok lb pa pg hha hg=>?_;refine Zsr<|Zb 2 U<|Aj<|Zm U<|Zk (c59 ..) [0] U U<|Zq ?_;refine Zn<|Zcf U<|Zks<|Zb 2 U ?_;refine Zfl [0,0,0,0] (Ad (b:=b) (d:=d) ok) U ?_;refine Zk (c97 b d line h) [0] U U<|Zq<|Zy U<|Zn ?_;refine Zjq (ι:=PLift (¬(d.ask.isSome=true∨mine d.giv line=true)∧¬(stateOf d.L line≠0∧(wr=false∨Ap (stateOf d.L line)=true)))) (fun _=>[(0,pt b),(1,.int .u32 line),(2,.bool wr),(3,.int .i64 pick),(8,.slice none 0 0)]) (fun _=>[.hp (AK b d)]) X ?_ fun i=>?_;refine Zbl<|Zsr<|Za 3 [2] U U ?_;rotate_left
 refine Zsq<|Zsr<|Za 3 [1] U U ?_;rotate_left
 ·rcases Option.eq_none_or_eq_some d.ask with hak|⟨lw,hak⟩
  rotate_left
  ·have e1:askF d line h wr pick=(d,[],230):=if_pos (.inl (by rw[hak];rfl));rw[e1] at hS;refine Zol 0 Bc U<|fun _ lb pa pg hha hg=>?_;have h1:pa.isSome=true:=by rw[hha,hak];rfl
   refine Zv (yd 0 U U U)<|Zv (DN U U U)<|Zm U<|Zu' U U h1 U<|Zu' U U h1 U<|Zu' U U h1 U<|Zu' U U h1 U<|Zu' U U h1 U<|Zu' U U h1 U<|Zuu U U ?_;refine Zb 8 U<|Zu' U U h1 U<|Zv (Ax U h1 U) ?_;refine Zy U<|Zn<|Zct U<|Zsr<|Zb 2 U<|Znr ?_;refine Zr2<|Zr1 ?_;refine Zfx [0,0,0,0] (Ad (b:=b) (d:=d) ok) U ?_;refine Zix (fun _ hs=>Ag (E:=Al) hs)<|Zre (.t U (.t U .n)) (hS _ _) [0,0] 0 U U U U
  ·have ha0:¬d.ask.isSome=true:=by rw[hak];simp
   rcases Option.eq_none_or_eq_some d.giv with hgv|⟨x,hgv⟩
   rotate_left
   ·refine Zol 0 Bc U<|fun _ lb pa pg hha hg=>?_;have h1:pa.isSome=false:=by rw[hha,hak];rfl
    rw[hgv];refine Zol 3 FK U<|fun bg eg=>?_;subst eg;refine Zv (yd 1 U U U)<|Zv (DN U U U)<|Zm U<|Zg' U U h1<|Zm U<|Zg' U U h1<|Zv (yn U)<|Zg' U U h1<|Zv (yf 3 U)<|Zg' U U h1 ?_;refine Zv (yd 1 U U U)<|Zg' U U h1<|Zv (DN U U U)<|Zg' U U h1<|Zb 3 U<|Zg U U ?_;refine Za 5 [3,1,0,0] U U<|Zg U U ?_;refine Zb 2 U<|Zg' U U h1<|Zv (ypt U U)<|Zv (Ao U h1 U)<|Zy U<|Zn<|Zif U (fun h21=>?_) (fun h21=>?_);refine Zsr<|Zb 2 U<|Znr<|Zr2<|Zr1 ?_;rotate_left;refine Zsr<|Zb 3 U<|Zgs U U (fun h48=>?_) (fun h48=>?_)
    refine Zg' U U (dT h48)<|Zm U<|Zg' U U (dT h48)<|Zv (BM U)<|Zg' U U (dT h48)<|Zm U<|Zgb U U (fun h51=>?_) (fun h51=>?_);refine Zu' U U h51 U<|Zu' U U h51 U<|Zg' U U (dT h48)<|Zv (Ax U h51 U)<|Zv (Ax U (dT h48) U)<|Zy U<|Zn<|Zct U<|Zsr ?_;refine Zb 2 U<|Znr<|Zr2<|Zr1 ?_;rotate_left;refine Zg' U U h51<|Zm U<|Zg' U U h51<|Zk (RN ..) [] U U<|Zq<|Zg' U U (dT h48)<|Zv (Ao U h51 U)<|Zv (Ax U (dT h48) U)<|Zy U<|Znl ?_;refine Znx<|Zib U (fun h45=>?_) (fun h45=>?_);refine Zsr<|Zb 2 U<|Znr<|Zr2<|Zr1 ?_;rotate_left;refine Zsk<|Zxn ?_;rotate_left
    refine Zu' U U (dF h48) U<|Zu' U U (dF h48) U<|Zu' U U (dF h48) U<|Zb 2 U<|Zu' U U (dF h48) U<|Zv (Ao U (dF h48) U)<|Zy U<|Zn ?_;refine Zcf U<|Zsk<|Zxn ?_;rotate_left
    all_goals refine Zfx [0] (HC (b:=bg) (x:=x)) rfl ?_
    all_goals rw[←hgv]
    all_goals refine Zfx [1,1,1,0] (Ad (b:=b) (d:=d) ok) rfl ?_
    ·have e1:askF d line h wr pick=(d,[],230):=if_pos (.inr (by rw[hgv];simp[mine,h21]));rw[e1] at hS;refine Zix (fun _ hs=>Ag (E:=Al) hs)<|Zre (.t U (.t U .n)) (hS _ _) [0,0] 0 U U U U
    all_goals have hm:¬(d.ask.isSome=true∨mine d.giv line=true):=fun hh=>hh.elim ha0 (by rw[hgv];simp[mine,h21])
    ·have e1:askF d line h wr pick=(d,[],231):=(if_neg hm).trans (if_pos ⟨h48,.inl (by simpa using h51)⟩);rw[e1] at hS;refine Zix (fun _ hs=>Ag (E:=Al) hs)<|Zre (.t U (.t U .n)) (hS _ _) [0,0] 0 U U U U
    ·have e1:askF d line h wr pick=(d,[],231):=(if_neg hm).trans (if_pos ⟨h48,.inr h45⟩);rw[e1] at hS;refine Zix (fun _ hs=>Ag (E:=Al) hs)<|Zre (.t U (.t U .n)) (hS _ _) [0,0] 0 U U U U
    ·refine Zjr ⟨⟨hm,fun hh=>hh.2.elim (fun hw=>by rw[hw] at h51;cases h51) (fun hw=>by rw[hw] at h45;cases h45)⟩⟩ ⟨U,U,U,U,U,trivial⟩ [0] 0 U U
    ·refine Zjr ⟨⟨hm,fun hh=>h48 hh.1⟩⟩ ⟨U,U,U,U,U,trivial⟩ [0] 0 U U
   ·refine Zol 0 Bc U<|fun _ lb pa pg hha hg=>?_;have h1:pa.isSome=false:=by rw[hha,hak];rfl
    have h2:pg.isSome=false:=by rw[hg,hgv];rfl
    have hm:¬(d.ask.isSome=true∨mine d.giv line=true):=fun hh=>hh.elim ha0 (by rw[hgv];simp[mine]);refine Zv (yd 0 U U U)<|Zv (DN U U U)<|Zm U<|Zg' U U h1<|Zm U<|Zg' U U h1<|Zv (yn U)<|Zg' U U h1<|Zv (yf 3 U)<|Zg' U U h1 ?_;refine Zv (yd 0 U U U)<|Zg' U U h1<|Zv (DN U U U)<|Zg' U U h1<|Zm U<|Zu' U U h2 U<|Zu' U U h2 U<|Zu' U U h2 U<|Zu' U U h2 U<|Zu' U U h2 U ?_;refine Zu' U U h2 U<|Zu' U U h2 U<|Zu' U U h2 U<|Zu' U U h2 U<|Zg' U U h1<|Zv (Ao U h2 U)<|Zv (Ao U h1 U)<|Zy U<|Zn ?_;refine Zcf U<|Zsr<|Zb 3 U<|Zgs U U (fun h48=>?_) (fun h48=>?_)
    refine Zg' U U (dT h48)<|Zm U<|Zg' U U (dT h48)<|Zv (BM U)<|Zg' U U (dT h48)<|Zm U<|Zgb U U (fun h51=>?_) (fun h51=>?_);refine Zu' U U h51 U<|Zu' U U h51 U<|Zg' U U (dT h48)<|Zv (Ax U h51 U)<|Zv (Ax U (dT h48) U)<|Zy U<|Zn<|Zct U<|Zsr ?_;refine Zb 2 U<|Znr<|Zr2<|Zr1 ?_;rotate_left;refine Zg' U U h51<|Zm U<|Zg' U U h51<|Zk (RN ..) [] U U<|Zq<|Zg' U U (dT h48)<|Zv (Ao U h51 U)<|Zv (Ax U (dT h48) U)<|Zy U<|Znl ?_;refine Znx<|Zib U (fun h45=>?_) (fun h45=>?_);refine Zsr<|Zb 2 U<|Znr<|Zr2<|Zr1 ?_;rotate_left;refine Zsk<|Zxn ?_;rotate_left
    refine Zu' U U (dF h48) U<|Zu' U U (dF h48) U<|Zu' U U (dF h48) U<|Zb 2 U<|Zu' U U (dF h48) U<|Zv (Ao U (dF h48) U)<|Zy U<|Zn ?_;refine Zcf U<|Zsk<|Zxn ?_;rotate_left
    all_goals refine Zfx [0,0,0,0] (Ad (b:=b) (d:=d) ok) rfl ?_
    ·have e1:askF d line h wr pick=(d,[],231):=(if_neg hm).trans (if_pos ⟨h48,.inl (by simpa using h51)⟩);rw[e1] at hS;refine Zix (fun _ hs=>Ag (E:=Al) hs)<|Zre (.t U (.t U .n)) (hS _ _) [0,0] 0 U U U U
    ·have e1:askF d line h wr pick=(d,[],231):=(if_neg hm).trans (if_pos ⟨h48,.inr h45⟩);rw[e1] at hS;refine Zix (fun _ hs=>Ag (E:=Al) hs)<|Zre (.t U (.t U .n)) (hS _ _) [0,0] 0 U U U U
    ·refine Zjr ⟨⟨hm,fun hh=>hh.2.elim (fun hw=>by rw[hw] at h51;cases h51) (fun hw=>by rw[hw] at h45;cases h45)⟩⟩ ⟨U,U,U,U,U,trivial⟩ [0] 0 U U
    ·refine Zjr ⟨⟨hm,fun hh=>h48 hh.1⟩⟩ ⟨U,U,U,U,U,trivial⟩ [0] 0 U U
 ·obtain⟨⟨hm,h2⟩⟩:=i;refine Zol 0 Bc U<|fun _ lb pa pg hha hg=>?_;refine Za 3 [0] U U ?_;refine Zk (gH lb d.n d.ways line pick d.L ok.w0 h hp (Nat.le_trans ok.len (by decide))) [1] U U<|⟨?_,?_⟩
  refine fun x=>fun a=>Zq<|Zv (ym rfl)<|Zv (yx rfl rfl)<|Zv (yx rfl rfl)<|Ze (eal Fd) fun b11=>Zw<|Ze (esw 0 (m:=18) rfl rfl rfl rfl rfl (Enc.len ..) (Enc.allL ..))<|Zw0<|Zv (ya rfl)<|Znl ?_;refine Zxs<|Zm U<|Zn<|Zct U<|Zsr<|Zm U<|Zv (ydw 0 (m:=18) U U (Enc.len ..)) ?_;rotate_left;refine fun a=>Zq<|Zv (ym rfl)<|Zv (yx rfl rfl)<|Zv (yx rfl rfl)<|Ze (eal Fd) fun b11=>Zw<|Ze (esw 0 (m:=18) rfl rfl rfl rfl rfl (Enc.len ..) (Enc.allL ..))<|Zw0<|Zv (ya rfl)<|Znl<|Znx ?_;refine Zsr<|Zm U<|Zn<|Zcf U<|Zks<|Zb 2 U ?_
  refine Zm U<|Zv (yb bB U)<|Ze (ebx U) fun b80=>Zw<|Za 2 [2] U U<|Ze (es 3 U U U U U)<|Zw0<|Zns<|Zy U ?_;refine Aj<|Zm U<|Zn<|Zib U (fun h83=>?_) (fun h83=>?_);refine Zrg<|Zy U<|Zns<|Zb 4 U ?_;rotate_left;refine Zks<|Zb 4 U ?_;rotate_left
  ·refine Zfl [2,1,1,1] (Ad (b:=b) (d:=d) ok) U<|Zk (Zt ..) [0] U U<|fun A=>fun cap=>Zq<|Zb 5 U ?_;refine Aj<|Zb 2 U<|Zn<|Zib U (fun h74=>?_) (fun h74=>?_);refine Zsr<|Zb 2 U<|Znr<|Zr1<|Zr1 ?_;rotate_left;refine Zkn<|Zrg<|Zb 2 U<|Zns<|Zb 2 U ?_;refine Zm U<|Zv (yb bB U)<|Ze (ebx U) fun b80=>Zw<|Za 2 [2] U U ?_;rotate_left
   ·rw[show askF d line h wr pick=(d,[],230) by unfold askF;rw[if_neg hm,if_neg h2,a];simp only[];rw[if_neg (by rw[show(outF d x).2.2=false by simpa using h74];decide)]] at hS;rw[X1 (show(outF d x).2.2=false by simpa using h74)];refine Zix (fun _ hs=>Ag (E:=Al) hs)<|Zre (.t U (.t U .n)) (hS _ _) [0,1] 2 U U U U
   ·have ho:(outF d x).2.2=true:=by simpa using h74
    rw[show askF d line h wr pick=((outF d x).1.setA (some (line,wr)),(outF d x).2.1++[D8 d.id line wr h],0) by unfold askF;rw[if_neg hm,if_neg h2,a];simp only[];rw[if_pos ho]] at hS;have ok1:=X2 ok x;have hol:=VG d x;refine Zol 2 Bc U<|fun _ lb1 pa1 pg1 hha1 hg1=>?_;refine Ze (es 0 U U U U U)<|Zw0<|Zns<|Zy U<|Aj<|Zm U ?_;refine Zn<|Zib U (fun h83=>?_) (fun h83=>?_);refine Zrg<|Zy U<|Zns<|Zb 4 U ?_;rotate_left;refine Zks<|Zb 4 U ?_;rotate_left
    ·subst h83;refine Zk (Lf b (outF d x).1.id 2 line h (pt lb1) (pt b80) (.pointer pg1)) [0] U U<|Zq<|Ze (eb1 BZ (by decide) U) fun A89=>Zw ?_;have hm1:(outF d x).2.1.length+[mkM 2 (outF d x).1.id 4 line AE h].length≤maxLen:=CY (by simp;omega);refine Ze (Dp 6 0 BZ U U U own.rd U U U (fun _ _=>U) (by simp;omega) hm1)<|fun A' cap'=>Zw<|Zb 2 U<|Znr ?_;refine Zfx [5] (Ff (b:=b80) (l:=line) (wr:=true)) U ?_;refine Zfx [2,2,0,2] (Ad (b:=b) (d:=(outF d x).1.setA (some (line,true))) (ok1.setA line true h)) U ?_;rw[Th]
     refine Zre (.t U (.t U .n)) (hS _ _) [3,0] 3 U U U U
    ·subst h83;refine Zk (Lf b (outF d x).1.id 1 line h (pt lb1) (pt b80) (.pointer pg1)) [0] U U<|Zq<|Ze (eb1 BZ (by decide) U) fun A89=>Zw ?_;have hm1:(outF d x).2.1.length+[mkM 1 (outF d x).1.id 4 line AE h].length≤maxLen:=CY (by simp;omega);refine Ze (Dp 6 0 BZ U U U own.rd U U U (fun _ _=>U) (by simp;omega) hm1)<|fun A' cap'=>Zw<|Zb 2 U<|Znr ?_;refine Zfx [5] (Ff (b:=b80) (l:=line) (wr:=false)) U ?_;refine Zfx [2,2,0,2] (Ad (b:=b) (d:=(outF d x).1.setA (some (line,false))) (ok1.setA line false h)) U ?_;rw[Th]
     refine Zre (.t U (.t U .n)) (hS _ _) [3,0] 3 U U U U
  all_goals rw[show askF d line h wr pick=(d.setA (some (line,wr)),[D8 d.id line wr h],0) by unfold askF;rw[if_neg hm,if_neg h2,a]] at hS
  ·subst h83;refine Zk (Lf b d.id 2 line h (pt lb) (pt b80) (.pointer pg)) [3] U U<|Zq<|Ze (eb1 BZ (by decide) U) fun A89=>Zw ?_;refine Zim (fun _ hs=>Ag (E:=Al) hs) ?_;have hm1:([]:List Msg).length+[D8 d.id line true h].length≤maxLen:=CY (by simp);refine Ze (Dp 0 1 BZ U U U own.rd U U U (fun _ _=>U) (by simp) hm1)<|fun A' cap'=>Zw<|Zb 2 U<|Znr ?_;refine Zfx [3] (Ff (b:=b80) (l:=line) (wr:=true)) U ?_;refine Zfx [3,4,0,4] (Ad (b:=b) (d:=d.setA (some (line,true))) (ok.setA line true h)) U<|Zre (.t U (.t U .n)) (hS _ _) [1,0] 3 U U U U
  ·subst h83;refine Zk (Lf b d.id 1 line h (pt lb) (pt b80) (.pointer pg)) [3] U U<|Zq<|Ze (eb1 BZ (by decide) U) fun A89=>Zw ?_;refine Zim (fun _ hs=>Ag (E:=Al) hs) ?_;have hm1:([]:List Msg).length+[D8 d.id line false h].length≤maxLen:=CY (by simp);refine Ze (Dp 0 1 BZ U U U own.rd U U U (fun _ _=>U) (by simp) hm1)<|fun A' cap'=>Zw<|Zb 2 U<|Znr ?_;refine Zfx [3] (Ff (b:=b80) (l:=line) (wr:=false)) U ?_;refine Zfx [3,4,0,4] (Ad (b:=b) (d:=d.setA (some (line,false))) (ok.setA line false h)) U<|Zre (.t U (.t U .n)) (hS _ _) [1,0] 3 U U U U
abbrev Qa (why:Int):List PanicEntry:=LD (.iface 348 (.agg #[.int .i64 why]))
def dataOk (d:CD) (m:Msg):Bool:=match d.ask with|some (l,wr)=>decide (l=m.line) && (wr == decide (m.kind=10))|none=>false
def BH (m:Msg):Ln:=⟨m.line,if m.kind=8 then 1 else 2,m.bs,m.hn⟩
def CU (d:CD) (m:Msg):Bool:=dataOk d m && decide (Cu d.n d.ways d.L (BH m)=0)
def CD.setLA (d:CD) (L:List Ln):CD:=⟨d.id,d.n,d.ways,L,none,d.giv⟩
theorem CD.Ok.putA {d:CD} (h:d.Ok) (l:Ln):(d.setLA (putL d.n d.ways d.L l)).Ok:={ h with un:=h.un.putL,fit:=h.fit.putL l,ask:=fun _ _ e=>by cases e }
theorem PV {n:Nat} {ways:Int} {L:List Ln} {l:Ln} (h:¬Cu n ways L l=0):putL n ways L l=L:=if_neg h
theorem W7 (b:Nat) (d:CD) (m:Msg):Sp Tryz.prog 197 [pt b,.agg (Al.arr m)] [.hp (AK b d)] fun K=>
  (CU d m=true→∀A,K (.returned (.slice A 1 1)) [.hp (own Al A 1 [mkM 13 d.id 4 m.line AE m.hn]),.hp (AK b (d.setLA (putL d.n d.ways d.L (BH m))))])∧(CU d m=false→K (.panicked (Qa 220)) [.hp (AK b d)]):=by
 have hn:=m.hn;rcases Option.eq_none_or_eq_some d.ask with hak|⟨⟨l,wr⟩,hak⟩
 ·have h0:CU d m=false:=by simp[CU,dataOk,hak]
  refine Zen Tryz.func197 U U U fun e X Φ hS=>Zoc 0 Bc U<|fun ok lb pa pg hha hg=>?_;have h1:pa.isSome=false:=by rw[hha,hak];rfl
  refine Zsr<|Ze (A8 U) fun b3=>Zw<|Zy U<|Znq<|Zhd [] U U<|Zht 0 U (ym U)<|Zht 1 U (yn U)<|Zht 2 U (yf 2 U) ?_;refine Zht 3 U (yd 1 U U U)<|Zht 4 U (DN U U U)<|Zht 5 U (ym U)<|Zhu 6 U U (lkn U h1) U<|Zhu 7 U U (lkn U h1) U<|Zhu 8 U U (lkn U h1) U<|Zhu 9 U U (lkn U h1) U<|Zhu 10 U U (lkn U h1) U<|Zhu 11 U U (lkn U h1) U<|Zhu 12 U U (lkn U h1) U ?_;refine Zhu 13 U U (lkn U h1) U<|Zhu 14 U U (lkn U h1) U<|Zhu 15 U U (lkn U h1) U<|Zht 16 U (Ao U h1 U)<|Zht 17 U (ym U)<|Zhu 18 U U U U<|Zhu 19 U U U U<|Zhu 20 U U U U<|Zhu 21 U U U U<|Zhu 22 U U U U ?_
  refine Zhu 23 U U U U<|Zhu 24 U U U U<|Zhu 25 U U U U<|Zhu 26 U U U U<|Zhu 27 U U U U<|Zhu 28 U U U U<|Zht 29 U (ypf U U)<|ZH1 30<|Zok (RO (h:=U) ..) [] U U U<|Dl<|Zp1 ?_;refine Zfx [1,1,1,1] (Ad (b:=b) (d:=d) ok) U ?_;refine Zpe (hS.2 h0) [0] 1 U U
 ·refine Zen Tryz.func197 U U U fun e X Φ hS=>Zoc 0 Bc U<|fun ok lb pa pg hha hg=>?_;rw[hak];refine Zoc 2 O9 U<|fun ba ea=>?_;subst ea;refine Zsr<|Ze (A8 U) fun b3=>Zw<|Zy U<|Znq<|Zhd [] U U<|Zht 0 U (ym U)<|Zht 1 U (yn U)<|Zht 2 U (yf 2 U) ?_;refine Zht 3 U (yd 2 U U U)<|Zht 4 U (DN U U U)<|Zht 5 U (ym U)<|Zhg 6 U U U (ym U)<|Zhg 7 U U U (yn U)<|Zhg 8 U U U (yf 2 U)<|Zhg 9 U U U (yd 2 U U U)<|Zhg 10 U U U (yn U)<|Zhg 11 U U U (yf 0 U)<|Zhg 12 U U U (yd 1 U U U) ?_
  refine Zhg 13 U U U (yf 3 U)<|Zhg 14 U U U (yd 0 U U U)<|Zhg 15 U U U (yeq U U)<|Zht 16 U (ypt U U)<|Zht 17 U (ym U)<|IR 18 U U U (fun h23=>?_) (fun h23=>?_);refine Zhg 18 U U (lkn U (dT h23)) (ym U)<|Zhg 19 U U (lkn U (dT h23)) (yn U)<|Zhg 20 U U (lkn U (dT h23)) (yf 2 U)<|Zhg 21 U U (lkn U (dT h23)) (yd 2 U U U)<|Zhg 22 U U (lkn U (dT h23)) (yn U)<|Zhg 23 U U (lkn U (dT h23)) (yf 1 U)<|Zhg 24 U U (lkn U (dT h23)) (yd 1 U U U)<|Zhg 25 U U (lkn U (dT h23)) (yf 0 U)<|Zhg 26 U U (lkn U (dT h23)) (yd 0 U U U)<|Zhg 27 U U (lkn U (dT h23)) (yeq U U) ?_
  refine Zhg 28 U U (lkn U (dT h23)) (lA U U U)<|Zht 29 U (Ax U (dT h23) U)<|ZH1 30<|Zok (Qx ..) [] U U U<|⟨?_,?_⟩
  refine fun a=>Zqh 0 rfl<|Zhn (by kernel_rfl)<|Znx<|Zsr<|Zv (ya rfl)<|Znl<|Znx<|Zsq<|Zsr ?_;refine Za 3 [0,0] U U<|Zn<|Zif U (fun h39=>?_) (fun h39=>?_);refine Zrg<|Zy U<|Znq ?_;rotate_left;refine Zkn<|Zsq ?_;rotate_left;refine fun a=>Dl<|Zp1 ?_;rotate_left;refine Zhu 18 U U (lkn U (dF h23)) U<|Zhu 19 U U (lkn U (dF h23)) U<|Zhu 20 U U (lkn U (dF h23)) U<|Zhu 21 U U (lkn U (dF h23)) U<|Zhu 22 U U (lkn U (dF h23)) U<|Zhu 23 U U (lkn U (dF h23)) U<|Zhu 24 U U (lkn U (dF h23)) U<|Zhu 25 U U (lkn U (dF h23)) U<|Zhu 26 U U (lkn U (dF h23)) U<|Zhu 27 U U (lkn U (dF h23)) U ?_
  refine Zhu 28 U U (lkn U (dF h23)) U<|Zht 29 U (Ao U (dF h23) U)<|ZH1 30<|Zok (RO (h:=U) ..) [] U U U<|Dl<|Zp1 ?_;rotate_left
  ·have hd:BH m=⟨m.line,1,m.bs,m.hn⟩:=by unfold BH;rw[if_pos h39]
   refine Zhd [3] U U<|Zht 0 U (ym U)<|Zht 1 U (yn U)<|Zht 2 U (yf 1 U)<|Zht 3 U (yd 2 U U U)<|Zht 4 U (yf 3 U)<|Zht 5 U (yd 0 U U U)<|Zht 6 U (ym U)<|Zht 7 U (yf 4 U)<|Zht 8 U (yda 0 (m:=16) U U (E2 _) (Enc.len ..)) ?_;refine Zht 9 U (WL (by assumption) U) ?_;refine ZH1 10<|Zok (UR lb d.n d.ways d.L ⟨m.line,1,m.bs,m.hn⟩ (by have:=ok.w0;omega) (Nat.le_trans ok.len (by decide))) [0] U U U<|Zqh 1 U<|Zht 11 U (yeq U U)<|ZH1 12<|Zok (Qx ..) [] U U U<|⟨?_,?_⟩
   refine fun a_1=>Zqh 1 rfl<|Zhn (by kernel_rfl)<|Znx<|Zsr<|Zv (ym rfl)<|Zv (yn rfl)<|Zv (yf 2 rfl)<|Ze (es 3 rfl rfl rfl rfl rfl)<|Zw0<|Znl ?_;refine Zxs<|Za 3 [3,1] U U ?_;rotate_left;refine fun a_1=>Dl<|Zp1 ?_;rotate_left
   ·have h0:CU d m=true:=by simp only[CU,dataOk,hak,hd,h23,a,decide_true,Bool.true_and];simpa using a_1
    rw[h0] at hS;have ok':=ok.putA (BH m);rw[hd] at ok' hS;refine Zk (Lf b d.id 13 m.line hn (pt lb) (.pointer none) (.pointer pg)) [3] U U<|Zq<|Ze (eb1 BZ (by decide) U) fun A60=>Zw<|Zy U<|Znr ?_;refine Zfx [] N2 U ?_;refine Zfx [2,2,0,3] (Ad (b:=b) (d:=d.setLA (putL d.n d.ways d.L ⟨m.line,1,m.bs,m.hn⟩)) ok') U ?_;refine Zre (.t U .n) (hS.1 U _) [1,0] 2 U U U U
   ·have h0:CU d m=false:=by simp only[CU,dataOk,hak,hd,h23,a,decide_true,Bool.true_and];simpa using a_1
    rw[PV (by simpa using a_1)];refine Zfx [2] (Ff (b:=ba) (l:=l) (wr:=wr)) U ?_;rw[←hak];refine Zfx [3,1,0,1] (Ad (b:=b) (d:=d) ok) U ?_;refine Zpe (hS.2 h0) [0] 1 U U
  ·have hd:BH m=⟨m.line,2,m.bs,m.hn⟩:=by unfold BH;rw[if_neg h39]
   refine Zhd [3] U U<|Zht 0 U (ym U)<|Zht 1 U (yn U)<|Zht 2 U (yf 1 U)<|Zht 3 U (yd 2 U U U)<|Zht 4 U (yf 3 U)<|Zht 5 U (yd 0 U U U)<|Zht 6 U (ym U)<|Zht 7 U (yf 4 U)<|Zht 8 U (yda 0 (m:=16) U U (E2 _) (Enc.len ..)) ?_;refine Zht 9 U (WL (by assumption) U) ?_;refine ZH1 10<|Zok (UR lb d.n d.ways d.L ⟨m.line,2,m.bs,m.hn⟩ (by have:=ok.w0;omega) (Nat.le_trans ok.len (by decide))) [0] U U U<|Zqh 1 U<|Zht 11 U (yeq U U)<|ZH1 12<|Zok (Qx ..) [] U U U<|⟨?_,?_⟩
   refine fun a_1=>Zqh 1 rfl<|Zhn (by kernel_rfl)<|Znx<|Zsr<|Zv (ym rfl)<|Zv (yn rfl)<|Zv (yf 2 rfl)<|Ze (es 3 rfl rfl rfl rfl rfl)<|Zw0<|Znl ?_;refine Zxs<|Za 3 [3,1] U U ?_;rotate_left;refine fun a_1=>Dl<|Zp1 ?_;rotate_left
   ·have h0:CU d m=true:=by simp only[CU,dataOk,hak,hd,h23,a,decide_true,Bool.true_and];simpa using a_1
    rw[h0] at hS;have ok':=ok.putA (BH m);rw[hd] at ok' hS;refine Zk (Lf b d.id 13 m.line hn (pt lb) (.pointer none) (.pointer pg)) [3] U U<|Zq<|Ze (eb1 BZ (by decide) U) fun A60=>Zw<|Zy U<|Znr ?_;refine Zfx [] N2 U ?_;refine Zfx [2,2,0,3] (Ad (b:=b) (d:=d.setLA (putL d.n d.ways d.L ⟨m.line,2,m.bs,m.hn⟩)) ok') U ?_;refine Zre (.t U .n) (hS.1 U _) [1,0] 2 U U U U
   ·have h0:CU d m=false:=by simp only[CU,dataOk,hak,hd,h23,a,decide_true,Bool.true_and];simpa using a_1
    rw[PV (by simpa using a_1)];refine Zfx [2] (Ff (b:=ba) (l:=l) (wr:=wr)) U ?_;rw[←hak];refine Zfx [3,1,0,1] (Ad (b:=b) (d:=d) ok) U ?_;refine Zpe (hS.2 h0) [0] 1 U U
  ·have h0:CU d m=false:=by simp[CU,dataOk,hak,a]
   refine Zfx [1] (Ff (b:=ba) (l:=l) (wr:=wr)) U ?_;rw[←hak];refine Zfx [2,2,0,1] (Ad (b:=b) (d:=d) ok) U ?_;refine Zpe (hS.2 h0) [0] 1 U U
  ·have h0:CU d m=false:=by simp[CU,dataOk,hak,h23]
   refine Zfx [1] (Ff (b:=ba) (l:=l) (wr:=wr)) U ?_;rw[←hak];refine Zfx [2,2,0,1] (Ad (b:=b) (d:=d) ok) U ?_;refine Zpe (hS.2 h0) [0] 1 U U
def D9 (d:CD) (m:Msg):Option (CD × B16):=
 if mine d.giv m.line=true then some (d,(d.giv.getD ln0).bs)
 else if Ap (stateOf d.L m.line)=true then some (d.setL (if m.kind=4 then putL d.n d.ways d.L ((Cj d.L m.line).st 1) else dropL d.L (Cj d.L m.line).num),(Cj d.L m.line).bs)
 else none
theorem Zs (b:Nat) (d:CD) (m:Msg):Sp Tryz.prog 198 [pt b,.agg (Al.arr m)] [.hp (AK b d)] fun K=>
  (∀d' bs,D9 d m=some (d',bs)→∀A,K (.returned (.slice A 1 1)) [.hp (own Al A 1 [mkM 11 d.id 4 m.line bs m.hn]),.hp (AK b d')])∧(D9 d m=none→K (.panicked (Qa 220)) [.hp (AK b d)]):=by
 have hn:=m.hn;refine Zen Tryz.func198 U U U fun e X Φ hS=>Zoc 0 Bc U<|fun ok lb pa pg hha hg=>?_;refine Zsr<|Ze (A8 U) fun b3=>Zw<|Zy U<|Zns<|Za 3 [3,0] U U ?_;refine Zk (Lf b d.id 11 m.line hn (pt lb) (.pointer pa) (.pointer pg)) [1] U U<|Zq<|Ze (eal Iy) fun b5=>Zw<|Ze (esw 0 (m:=20) U U U U U (Enc.len ..) (Enc.allL ..))<|Zw0<|Zn ?_;refine Zfc [1,2,2,2] (Ad (b:=b) (d:=d) ok) U ?_
 refine Zjq (ι:=PLift (¬mine d.giv m.line=true)) (fun _=>[(0,pt b),(3,pt b3),(5,pt b5)]) (fun _=>[.hp (AK b d),.blk b5 117 (Al.cells (mkM 11 d.id 4 m.line AE hn)),.blk b3 117 (Al.cells m)]) X ?_ fun i=>?_;rotate_left;rotate_left
 ·refine Zoc 0 Bc U<|fun _ lb pa pg hha hg=>?_;rcases Option.eq_none_or_eq_some d.giv with hgv|⟨x,hgv⟩
  ·have h2:pg.isSome=false:=by rw[hg,hgv];rfl
   have hm:mine d.giv m.line=false:=by simp[mine,hgv]
   refine Zsq<|Zhd [] U U<|Zht 0 U (ym U)<|Zht 1 U (yn U)<|Zht 2 U (yf 3 U)<|Zht 3 U (yd 0 U U U)<|Zht 4 U (DN U U U)<|Zht 5 U (ym U)<|Zhu 6 U U (lkn U h2) U<|Zhu 7 U U (lkn U h2) U ?_;refine Zhu 8 U U (lkn U h2) U<|Zhu 9 U U (lkn U h2) U<|Zhu 10 U U (lkn U h2) U<|Zhu 11 U U (lkn U h2) U<|Zhu 12 U U (lkn U h2) U<|Zhu 13 U U (lkn U h2) U<|Zhu 14 U U (lkn U h2) U<|Zhu 15 U U (lkn U h2) U<|Zht 16 U (Ao U h2 U)<|ZHn ?_;refine Znx<|Zcf U<|Zsk ?_;refine Zfx [0,0,0,0] (Ad (b:=b) (d:=d) ok) U ?_;refine Zjr ⟨by rw[hm];decide⟩ ⟨U,U,U,trivial⟩ [0,0,0] 0 U U
  ·rw[hgv];refine Zoc 3 FK U<|fun bg eg=>?_;subst eg;have hm:mine d.giv m.line=decide (x.num=m.line):=by simp[mine,hgv]
   refine Zsq<|Zhd [] U U<|Zht 0 U (ym U)<|Zht 1 U (yn U)<|Zht 2 U (yf 3 U)<|Zht 3 U (yd 1 U U U)<|Zht 4 U (DN U U U)<|Zht 5 U (ym U)<|Zhg 6 U U U (ym U)<|Zhg 7 U U U (yn U) ?_;refine Zhg 8 U U U (yf 3 U)<|Zhg 9 U U U (yd 1 U U U)<|Zhg 10 U U U (yn U)<|Zhg 11 U U U (yf 0 U)<|Zhg 12 U U U (yd 0 U U U)<|Zhg 13 U U U (yf 3 U)<|Zhg 14 U U U (yd 5 U U U)<|Zhg 15 U U U (yeq U U)<|Zht 16 U (ypt U U)<|ZHn ?_;refine Znx<|Zif U (fun h28=>?_) (fun h28=>?_)
   refine Zsr<|Za 6 [3,1,2] U U<|Zv (yda 0 (m:=16) U U (LA _) (Enc.len ..))<|Zv (yf 4 U)<|Ze (esc 4 (m:=16) U U U (LF _ _) U (Enc.len ..) (by rw[Enc.len];decide) (Enc.allL ..))<|Zw0 ?_;refine Zns<|Zv (ydw 4 (m:=20) U U (Enc.len ..))<|Ze (eb1 BZ (by decide) U) fun A38=>Zw<|Zy U<|Znr<|Zr1 ?_;rotate_left;refine Zsk ?_;rotate_left
   ·refine Zfx [1] (HC (b:=bg) (x:=x)) U ?_;rw[←hgv];refine Zfx [2,2,2,0] (Ad (b:=b) (d:=d) ok) U ?_;refine Zre (.t U .n) (hS.1 d x.bs (by unfold D9;rw[if_pos (by rw[hm];simpa using h28),hgv];rfl) _) [1,0] 2 U U U U
   ·refine Zfx [0] (HC (b:=bg) (x:=x)) U ?_;rw[←hgv];refine Zfx [1,1,1,0] (Ad (b:=b) (d:=d) ok) U ?_;refine Zjr ⟨by rw[hm];simpa using h28⟩ ⟨U,U,U,trivial⟩ [0,0,0] 0 U U
 ·obtain⟨hm⟩:=i;refine Zoc 0 Bc U<|fun _ lb pa pg hha hg=>?_;have hc:=Pg lb d.n d.ways m.line d.L (by have:=ok.w0;omega) hn (Nat.le_trans ok.len (by decide));refine Zjq (ι:=Nat) (fun b6=>[(6,pt b6),(0,pt b),(3,pt b3),(5,pt b5)]) (fun b6=>[.blk b6 145 (lnE.cells (Cj d.L m.line)),.hp (AY lb d.n d.ways d.L),.blk b 155 [.int .i64 d.id,pt lb,.pointer pa,.pointer pg],.hp (Ii pa d.ask),.hp (Io pg d.giv),.blk b5 117 (Al.cells (mkM 11 d.id 4 m.line AE hn)),.blk b3 117 (Al.cells m)]) X ?_ fun b6=>?_;rotate_left;rotate_left
  ·refine Zhd [1] U U<|Zht 0 U (ym U)<|Zht 1 U (yn U)<|Zht 2 U (yf 1 U)<|Zht 3 U (yd 0 U U U)<|Zht 4 U (yf 3 U)<|Zht 5 U (yd 4 U U U) ?_;refine ZH2 6 10 (Zok hc [0] U U U<|Zqh 1 U ?_) (Zoe U (eal Fd) fun b6=>Zwh 2 U ?_);refine Zht 7 U (ym U)<|Zht 8 U (yx U U)<|Zht 9 U (yx U U)<|ZH1 10<|Zoe U (eal Fd) fun b6=>Zwh 2 U<|ZH1 11<|Zoe U (esw 0 (m:=18) U U U U U (Enc.len ..) (Enc.allL ..))<|Ay 2 U<|Zht 12 U (ya U)<|ZHn ?_;rotate_left;rotate_left
   ·refine Zjr b6 ⟨U,U,U,U,trivial⟩ [0,0,0,0,0,0,0] 0 U U
   ·refine ZH1 6<|Zok hc [1] U U U<|Zqh 2 U<|Zht 7 U (ym U)<|Zht 8 U (yx U U)<|Zht 9 U (yx U U)<|ZH1 11<|Zoe U (esw 1 (m:=18) U U U U U (Enc.len ..) (Enc.allL ..))<|Ay 2 U<|Zht 12 U (ya U)<|ZHn ?_;refine Zjr b6 ⟨U,U,U,U,trivial⟩ [1,0,0,0,0,0,0] 0 U U
  refine Zsr<|Za 2 [1,0] U U<|Zk (RN ..) [] U U<|Zq<|Zk (Qx ..) [] U U<|⟨?_,?_⟩
  refine fun a=>Zq<|Znl<|Znx<|Zsr<|Zv (yf 2 rfl)<|Zv (yda 0 (m:=16) rfl rfl (LA _) (Enc.len ..))<|Zv (yf 4 rfl)<|Ze (esc 5 (m:=16) rfl rfl rfl (LF _ _) rfl (Enc.len ..) (by rw[Enc.len];decide) (Enc.allL ..))<|Zw0<|Znl ?_;refine Zxq<|Zsr<|Za 3 [0,6] U U<|Zn<|Zif U (fun h58=>?_) (fun h58=>?_);refine Zsr<|Zv (yf 1 U)<|Ze (es 0 U U U (WA _ _) U)<|Zw0<|Zn ?_;rotate_left;rotate_left;refine fun a=>Zqp<|Zp1 ?_;rotate_left
  ·have hb:D9 d m=some (d.setL (putL d.n d.ways d.L ((Cj d.L m.line).st 1)),(Cj d.L m.line).bs):=by unfold D9;rw[if_neg hm,if_pos (show Ap (stateOf d.L m.line)=true from a),if_pos h58]
   refine Zhd [1] U U<|Zht 0 U (ym U)<|Zht 1 U (yn U)<|Zht 2 U (yf 1 U)<|Zht 3 U (yd 1 U U U)<|Zht 4 U (ydw 0 (m:=18) U U (Enc.len ..)) ?_;refine ZH1 5<|Zok (UR lb d.n d.ways d.L ((Cj d.L m.line).st 1) (by have:=ok.w0;omega) (Nat.le_trans ok.len (by decide))) [0] U U U<|Zqh 1 U<|ZHn<|Zxs<|Zv (ydw 5 (m:=20) U U (Enc.len ..))<|Ze (eb1 BZ (by decide) U) fun A74=>Zw<|Zy U<|Zn ?_;refine Zrt ?_;refine Zfx [3,1,2,2] (Ad (b:=b) (d:=d.setL (putL d.n d.ways d.L ((Cj d.L m.line).st 1))) (ok.put ((Cj d.L m.line).st 1))) U ?_;refine Zre (.t U .n) (hS.1 _ _ hb _) [1,0] 3 U U U U
  ·have hb:D9 d m=some (d.setL (dropL d.L (Cj d.L m.line).num),(Cj d.L m.line).bs):=by unfold D9;rw[if_neg hm,if_pos (show Ap (stateOf d.L m.line)=true from a),if_neg h58]
   refine Zhd [1] U U<|Zht 0 U (ym U)<|Zht 1 U (yn U)<|Zht 2 U (yf 1 U)<|Zht 3 U (yd 1 U U U)<|Zht 4 U (yf 0 U)<|Zht 5 U (yd 0 U U U) ?_;refine ZH1 6<|Zok (UT lb d.n d.ways (Cj d.L m.line).num d.L (by have:=ok.w0;omega) (Cj d.L m.line).hn ok.un (Nat.le_trans ok.len (by decide))) [0] U U U<|Zqh 1 U<|ZHn<|Zxs<|Zv (ydw 5 (m:=20) U U (Enc.len ..))<|Ze (eb1 BZ (by decide) U) fun A74=>Zw<|Zy U<|Zn ?_;refine Zrt ?_;refine Zfx [3,1,2,2] (Ad (b:=b) (d:=d.setL (dropL d.L (Cj d.L m.line).num)) (ok.drop (Cj d.L m.line).num)) U ?_;refine Zre (.t U .n) (hS.1 _ _ hb _) [1,0] 3 U U U U
  ·have hb:D9 d m=none:=by unfold D9;rw[if_neg hm,if_neg (show¬Ap (stateOf d.L m.line)=true by simp only[stateOf];rw[a];decide)]
   refine Zfx [2,1,1,1] (Ad (b:=b) (d:=d) ok) U ?_;refine Zpe (hS.2 hb) [0] 3 U U
theorem fN (b:Nat) (d:CD) (m:Msg):Sp Tryz.prog 199 [pt b,.agg (Al.arr m)] [.hp (AK b d)] fun K=>
  (Ap (stateOf d.L m.line)=false→∀A,K (.returned (.slice A 1 1)) [.hp (own Al A 1 [mkM 12 d.id 4 m.line AE m.hn]),.hp (AK b (d.setL (dropL d.L m.line)))])∧(Ap (stateOf d.L m.line)=true→K (.panicked (Qa 220)) [.hp (AK b d)]):=by
 have hn:=m.hn;refine Zen Tryz.func199 U U U fun e X Φ hS=>Zsr<|Ze (A8 U) fun b3=>Zw<|Zy U<|Zns<|Za 3 [3,0] U U ?_;refine Zk (c97 b d m.line hn) [1] U U<|Zq<|Zk (RN ..) [] U U<|Zq<|Zv (BM U)<|Zk (Qx ..) [] U U<|⟨?_,?_⟩
 refine fun a=>Zq<|Znl<|Znx<|Zsq ?_;rotate_left;refine fun a=>Zqp<|Zp1 ?_;rotate_left
 ·have h0:Ap (stateOf d.L m.line)=false:=by simpa using a
  refine Zoc 0 Bc U<|fun ok lb pa pg hha hg=>?_;refine Zhd [1] U U<|Zht 0 U (ym U)<|Zht 1 U (yn U)<|Zht 2 U (yf 1 U)<|Zht 3 U (yd 0 U U U)<|Zht 4 U (yf 3 U)<|Zht 5 U (yd 3 U U U) ?_;refine ZH1 6<|Zok (UT lb d.n d.ways m.line d.L (by have:=ok.w0;omega) hn ok.un (Nat.le_trans ok.len (by decide))) [0] U U U<|Zqh 1 U<|ZHn<|Zxs<|Za 3 [3,4] U U ?_;refine Zk (Lf b d.id 12 m.line hn (pt lb) (.pointer pa) (.pointer pg)) [1] U U<|Zq<|Ze (eb1 BZ (by decide) U) fun A23=>Zw<|Zy U<|Znr ?_;refine Zfx [1,1,1,1] (Ad (b:=b) (d:=d.setL (dropL d.L m.line)) (ok.drop m.line)) U ?_
  refine Zre (.t U .n) (hS.1 h0 _) [1,0] 1 U U U U
 ·have h0:Ap (stateOf d.L m.line)=true:=by simpa using a
  refine Zpe (hS.2 h0) [0] 1 U U
def CD.noG (d:CD):CD:=⟨d.id,d.n,d.ways,d.L,d.ask,none⟩
theorem CD.Ok.noG {d:CD} (h:d.Ok):d.noG.Ok:={ h with }
theorem fO (b:Nat) (d:CD) (m:Msg):Sp Tryz.prog 200 [pt b,.agg (Al.arr m)] [.hp (AK b d)] fun K=>
  (mine d.giv m.line=true→K (.returned (.slice none 0 0)) [.hp (AK b d.noG)])∧(mine d.giv m.line=false→K (.panicked (Qa 220)) [.hp (AK b d)]):=by
 have hn:=m.hn;rcases Option.eq_none_or_eq_some d.giv with hgv|⟨x,hgv⟩
 ·refine Zen Tryz.func200 U U U fun e X Φ hS=>Zoc 0 Bc U<|fun ok lb pa pg hha hg=>?_;have h2:pg.isSome=false:=by rw[hg,hgv];rfl
  refine Zsr<|Ze (A8 U) fun b3=>Zw<|Zy U<|Znq<|Zhd [] U U<|Zht 0 U (ym U)<|Zht 1 U (yn U)<|Zht 2 U (yf 3 U) ?_;refine Zht 3 U (yd 1 U U U)<|Zht 4 U (DN U U U)<|Zht 5 U (ym U)<|Zhu 6 U U (lkn U h2) U<|Zhu 7 U U (lkn U h2) U<|Zhu 8 U U (lkn U h2) U<|Zhu 9 U U (lkn U h2) U<|Zhu 10 U U (lkn U h2) U<|Zhu 11 U U (lkn U h2) U<|Zhu 12 U U (lkn U h2) U ?_;refine Zhu 13 U U (lkn U h2) U<|Zhu 14 U U (lkn U h2) U<|Zhu 15 U U (lkn U h2) U<|Zht 16 U (Ao U h2 U)<|ZH1 17<|Zok (RO (h:=U) ..) [] U U U<|Dl<|Zp1 ?_;refine Zfx [1,1,1,1] (Ad (b:=b) (d:=d) ok) U ?_
  refine Zpe (hS.2 (by simp[mine,hgv])) [0] 1 U U
 ·refine Zen Tryz.func200 U U U fun e X Φ hS=>Zoc 0 Bc U<|fun ok lb pa pg hha hg=>?_;rw[hgv];refine Zoc 3 FK U<|fun bg eg=>?_;subst eg;refine Zsr<|Ze (A8 U) fun b3=>Zw<|Zy U<|Znq<|Zhd [] U U<|Zht 0 U (ym U)<|Zht 1 U (yn U)<|Zht 2 U (yf 3 U) ?_;refine Zht 3 U (yd 2 U U U)<|Zht 4 U (DN U U U)<|Zht 5 U (ym U)<|Zhg 6 U U U (ym U)<|Zhg 7 U U U (yn U)<|Zhg 8 U U U (yf 3 U)<|Zhg 9 U U U (yd 2 U U U)<|Zhg 10 U U U (yn U)<|Zhg 11 U U U (yf 0 U)<|Zhg 12 U U U (yd 1 U U U) ?_
  refine Zhg 13 U U U (yf 3 U)<|Zhg 14 U U U (yd 0 U U U)<|Zhg 15 U U U (yeq U U)<|Zht 16 U (ypt U U)<|ZH1 17<|Zok (Qx ..) [] U U U<|⟨?_,?_⟩
  refine fun a=>Zqh 0 rfl<|Zhn (by kernel_rfl)<|Znx<|Zsr<|Zv (ym rfl)<|Zv (yn rfl)<|Zv (yf 3 rfl)<|Ze (es 2 rfl rfl rfl rfl rfl)<|Zw0<|Znl ?_;refine Zxs<|Zy U<|Znr ?_;rotate_left;refine fun a=>Dl<|Zp1 ?_;rotate_left
  ·refine Zfx [] SJ U ?_;refine Zfx [3,3,3,0] (Ad (b:=b) (d:=d.noG) ok.noG) U ?_;refine Zre (.t U .n) (hS.1 (by rw[hgv];exact a)) [0] 2 U U U U
  ·refine Zfx [1] (HC (b:=bg) (x:=x)) U ?_;rw[←hgv];refine Zfx [2,2,2,0] (Ad (b:=b) (d:=d) ok) U ?_;refine Zpe (hS.2 (by rw[hgv];exact a)) [0] 1 U U
theorem OC (p:Value):Ct Tryz.prog 196 [p] .returning .returning [] []:=by refine Ml Tryz.func196 U U U U U U (fun _ _=>U) (.inl ⟨U,U,U⟩) fun e X c₀ cs=>?_;refine Zbl<|Zsr<|Zv (yii Tryz.underlying20 U)<|Zn<|Zct U<|Zrg<|Zy U<|Znl<|Zxn ?_;refine ZeS [] 0 (fun w' hp=>⟨U,U,hp⟩) U U
theorem Ox (b q t:Nat) (c:Int) (cs cs':List Value) (hc:put cs q (.int .i64 c)=some cs'):Ct Tryz.prog 196 [.pointer (some ⟨b,q,none⟩)] (pa (.iface 348 (.agg #[.int .i64 c])) false) (pa (.iface 348 (.agg #[.int .i64 c])) true) [.blk b t cs] [.blk b t cs']:=by
 refine Ml Tryz.func196 U U U U U U (fun _ _=>U) (.inr ⟨U,U⟩) fun e X c₀ cs=>?_;refine Zbl<|Zsr<|Zv (yin Tryz.underlying20 U)<|Zn<|Zcf U<|Zsr<|Zv (yta Tryz.underlying348 U U)<|Zb 2 U ?_;refine Zn<|Zct U<|Zsr<|Ze (eal lN) fun b3=>Zw<|Ze (esw 0 (m:=1) U U U U U U U)<|Zw0<|Zn<|Zrg<|Zm U ?_;refine Za 3 [0,0] U U ?_;refine Ze (es 1 U U U hc U)<|Zw0<|Znl<|Zxn ?_;refine ZeS [1] 1 (fun w' hp=>⟨U,U,hp⟩) U U
def takeF (d:CD) (m:Msg):CD × List Msg × Int:=
 if chk m≠0∨m.dst≠d.id then(d,[],2)
 else if m.kind=8∨m.kind=9∨m.kind=10 then(if CU d m=true then(d.setLA (putL d.n d.ways d.L (BH m)),[mkM 13 d.id 4 m.line AE m.hn],0) else(d,[],220))
 else if m.kind=4∨m.kind=5 then(match D9 d m with|some (d',bs)=>(d',[mkM 11 d.id 4 m.line bs m.hn],0)|none=>(d,[],220))
 else if m.kind=6 then(if Ap (stateOf d.L m.line)=true then(d,[],220) else(d.setL (dropL d.L m.line),[mkM 12 d.id 4 m.line AE m.hn],0))
 else if mine d.giv m.line=true then(d.noG,[],0) else(d,[],220)
theorem eT (b:Nat) (d:CD) (m:Msg):Sp Tryz.prog 143 [pt b,.agg (Al.arr m)] [.hp (AK b d)] fun K=>∀A cap,K (.returned (.tuple #[.slice A (takeF d m).2.1.length cap,.int .i64 (takeF d m).2.2])) [.hp (own Al A cap (takeF d m).2.1),.hp (AK b (takeF d m).1)]:=by
 refine Rq Tryz.func143 U U U fun e X Φ hS=>Zoc 0 Bc U<|fun ok lb pa pg hha hg=>?_;refine Zsr<|Ze (A8 U) fun b3=>Zw<|Zy U<|Ze (eal z34) fun b5=>Zw<|Znq<|Zbl<|Zsr<|Zm U ?_;refine Zk (c59 ..) [2] U U<|Zq<|Zy U<|Zn<|Zcf U<|Zsq<|Zhd [] U U<|Zht 0 U (ydw 2 (m:=20) U U (Enc.len ..))<|ZH1 1<|Zok (W5 ..) [] U U U ?_;refine Zqh 0 U<|Zht 2 U (yne U U)<|Zht 3 U (ym U)<|IR 4 U U U (fun h13=>?_) (fun h13=>?_)
 refine Zhu 4 U U (lkn U (dT h13)) U<|Zhu 5 U U (lkn U (dT h13)) U<|Zhu 6 U U (lkn U (dT h13)) U<|Zhu 7 U U (lkn U (dT h13)) U<|Zhu 8 U U (lkn U (dT h13)) U<|Zhu 9 U U (lkn U (dT h13)) U<|Zhu 10 U U (lkn U (dT h13)) U<|Zht 11 U (Ax U (dT h13) U)<|Zht 12 U (ya U)<|ZHn ?_;refine Znx<|Zct U<|Zsr<|Zy U<|Ze (es 1 U U U U U)<|Zw0<|Znr<|Zr2<|Zr1 ?_;rotate_left
 refine Zhg 4 U U (lkn U (dF h13)) (yf 2 U)<|Zhg 5 U U (lkn U (dF h13)) (yd 2 U U U)<|Zhg 6 U U (lkn U (dF h13)) (ym U)<|Zhg 7 U U (lkn U (dF h13)) (yn U)<|Zhg 8 U U (lkn U (dF h13)) (yf 0 U)<|Zhg 9 U U (lkn U (dF h13)) (yd 0 U U U)<|Zhg 10 U U (lkn U (dF h13)) (yne U U)<|Zht 11 U (Ao U (dF h13) U)<|Zht 12 U (ya U)<|ZHn ?_;refine Znx<|Zif U (fun h9=>?_) (fun h9=>?_);refine Zsr<|Zy U<|Ze (es 1 U U U U U)<|Zw0<|Znr<|Zr2<|Zr1 ?_;rotate_left;refine Zsk<|Zxn<|Zxs<|Zdf U<|Zns<|Ze (emk .i64) fun r22=>Zw<|Zm U ?_
 refine Zv (yfn U U)<|Ze (ein 0 U U U U U U Tryz.underlying319 Tryz.underlying114)<|Zw0<|Zm U<|Zv (yfn U U)<|Ze (ein 0 U U U U U U Tryz.underlying319 Tryz.underlying114)<|Zw0<|Zm U<|Zv (yfn U U)<|Ze (ein 0 U U U U U U Tryz.underlying319 Tryz.underlying114)<|Zw0<|Zm U<|Zv (yfn U U) ?_
 refine Ze (ein 0 U U U U U U Tryz.underlying319 Tryz.underlying114)<|Zw0<|Zm U<|Zv (yfn U U)<|Ze (ein 0 U U U U U U Tryz.underlying319 Tryz.underlying114)<|Zw0<|Zm U<|Zv (yfn U U)<|Ze (ein 0 U U U U U U Tryz.underlying319 Tryz.underlying114)<|Zw0<|Zm U<|Zv (yfn U U)<|Ze (ein 0 U U U U U U Tryz.underlying319 Tryz.underlying114)<|Zw0 ?_;refine Za 3 [0,3] U U ?_;rotate_left
 ·rw[show takeF d m=(d,[],2) from if_pos (.inl h13)] at hS;refine Zfx [0,2,2,2] (Ad (b:=b) (d:=d) ok) U ?_;refine Zix (fun _ hs=>Ag (E:=Al) hs)<|NY (.t U (.c 2 U U U .n)) (hS _ _) [0,0] 2 U U U U
 ·rw[show takeF d m=(d,[],2) from if_pos (.inr h9)] at hS;refine Zfx [0,2,2,2] (Ad (b:=b) (d:=d) ok) U ?_;refine Zix (fun _ hs=>Ag (E:=Al) hs)<|NY (.t U (.c 2 U U U .n)) (hS _ _) [0,0] 2 U U U U
 ·refine Zfl [1,3,3,3] (Ad (b:=b) (d:=d) ok) U ?_;have h1:¬(chk m≠0∨m.dst≠d.id):=fun h=>h.elim h13 h9
  have hk:m.kind=8∨m.kind=9∨m.kind=10∨m.kind=4∨m.kind=5∨m.kind=6∨m.kind=7:=by
   have i0:=ok.i0;have i1:=ok.i1;have hd:m.dst=d.id:=by simpa using h9
   have hc:Cd m=true:=by
    cases hg:Cd m with
    | true=>rfl
    | false=>exact absurd (show chk m≠0 by simp[chk,hg]) h13
   simp[Cd,CH,Ei] at hc;omega
  have e8:(m.kind=8∨m.kind=9∨m.kind=10)→takeF d m=(if CU d m=true then(d.setLA (putL d.n d.ways d.L (BH m)),[mkM 13 d.id 4 m.line AE m.hn],0) else(d,[],220)):=fun h=>(if_neg h1).trans (if_pos h);have e4:(m.kind=4∨m.kind=5)→takeF d m=(match D9 d m with|some (d',bs)=>(d',[mkM 11 d.id 4 m.line bs m.hn],0)|none=>(d,[],220)):=fun h=>(if_neg h1).trans ((if_neg (by omega)).trans (if_pos h))
  have e6:m.kind=6→takeF d m=(if Ap (stateOf d.L m.line)=true then(d,[],220) else(d.setL (dropL d.L m.line),[mkM 12 d.id 4 m.line AE m.hn],0)):=fun h=>(if_neg h1).trans ((if_neg (by omega)).trans ((if_neg (by omega)).trans (if_pos h)));have e7:m.kind=7→takeF d m=(if mine d.giv m.line=true then(d.noG,[],0) else(d,[],220)):=fun h=>(if_neg h1).trans ((if_neg (by omega)).trans ((if_neg (by omega)).trans (if_neg (by omega))));rcases hk with hk|hk|hk|hk|hk|hk|hk
  ·rw[e8 (by omega)] at hS;rw[hk];refine Zv (ylk 1 U U U Tryz.underlying319 Tryz.underlying114 J1)<|Zv (ydw 3 (m:=20) U U (Enc.len ..))<|Zkv (W7 ..) [0] U U U U<|⟨?_,?_⟩
   refine fun a=>fun A=>Zq<|Zv (ya rfl)<|Ze (es 3 rfl rfl rfl rfl rfl)<|Zw0<|Znl<|Znx<|Zrt ?_;rotate_left;refine fun a=>Zqp<|Zp1 ?_;rotate_left
   ·rw[if_pos a] at hS;refine ZrD (OC _) [] U (.t U (.c 3 U U U .n)) (hS _ _) [0,0] 3 U U U
   ·rw[if_neg (by rw[a];decide)] at hS;refine Zix (fun _ hs=>Ag (E:=Al) hs) ?_;refine ZpD (Ox _ _ _ _ _ _ U) [3] U (.t U (.c 0 U U U .n)) (hS none 0) [1,1] 3 U U U
  ·rw[e8 (by omega)] at hS;rw[hk];refine Zv (ylk 1 U U U Tryz.underlying319 Tryz.underlying114 J1)<|Zv (ydw 3 (m:=20) U U (Enc.len ..))<|Zkv (W7 ..) [0] U U U U<|⟨?_,?_⟩
   refine fun a=>fun A=>Zq<|Zv (ya rfl)<|Ze (es 3 rfl rfl rfl rfl rfl)<|Zw0<|Znl<|Znx<|Zrt ?_;rotate_left;refine fun a=>Zqp<|Zp1 ?_;rotate_left
   ·rw[if_pos a] at hS;refine ZrD (OC _) [] U (.t U (.c 3 U U U .n)) (hS _ _) [0,0] 3 U U U
   ·rw[if_neg (by rw[a];decide)] at hS;refine Zix (fun _ hs=>Ag (E:=Al) hs) ?_;refine ZpD (Ox _ _ _ _ _ _ U) [3] U (.t U (.c 0 U U U .n)) (hS none 0) [1,1] 3 U U U
  ·rw[e8 (by omega)] at hS;rw[hk];refine Zv (ylk 1 U U U Tryz.underlying319 Tryz.underlying114 J1)<|Zv (ydw 3 (m:=20) U U (Enc.len ..))<|Zkv (W7 ..) [0] U U U U<|⟨?_,?_⟩
   refine fun a=>fun A=>Zq<|Zv (ya rfl)<|Ze (es 3 rfl rfl rfl rfl rfl)<|Zw0<|Znl<|Znx<|Zrt ?_;rotate_left;refine fun a=>Zqp<|Zp1 ?_;rotate_left
   ·rw[if_pos a] at hS;refine ZrD (OC _) [] U (.t U (.c 3 U U U .n)) (hS _ _) [0,0] 3 U U U
   ·rw[if_neg (by rw[a];decide)] at hS;refine Zix (fun _ hs=>Ag (E:=Al) hs) ?_;refine ZpD (Ox _ _ _ _ _ _ U) [3] U (.t U (.c 0 U U U .n)) (hS none 0) [1,1] 3 U U U
  ·rw[e4 (by omega)] at hS;rw[hk];refine Zv (ylk 1 U U U Tryz.underlying319 Tryz.underlying114 J1)<|Zv (ydw 3 (m:=20) U U (Enc.len ..))<|Zkv (Zs ..) [0] U U U U<|⟨?_,?_⟩
   refine fun d'=>fun bs=>fun a=>fun A=>Zq<|Zv (ya rfl)<|Ze (es 3 rfl rfl rfl rfl rfl)<|Zw0<|Znl<|Znx<|Zrt ?_;rotate_left;refine fun a=>Zqp<|Zp1 ?_;rotate_left
   ·rw[a] at hS;simp only[] at hS;refine ZrD (OC _) [] U (.t U (.c 3 U U U .n)) (hS _ _) [0,0] 3 U U U
   ·rw[a] at hS;simp only[] at hS;refine Zix (fun _ hs=>Ag (E:=Al) hs) ?_;refine ZpD (Ox _ _ _ _ _ _ U) [3] U (.t U (.c 0 U U U .n)) (hS none 0) [1,1] 3 U U U
  ·rw[e4 (by omega)] at hS;rw[hk];refine Zv (ylk 1 U U U Tryz.underlying319 Tryz.underlying114 J1)<|Zv (ydw 3 (m:=20) U U (Enc.len ..))<|Zkv (Zs ..) [0] U U U U<|⟨?_,?_⟩
   refine fun d'=>fun bs=>fun a=>fun A=>Zq<|Zv (ya rfl)<|Ze (es 3 rfl rfl rfl rfl rfl)<|Zw0<|Znl<|Znx<|Zrt ?_;rotate_left;refine fun a=>Zqp<|Zp1 ?_;rotate_left
   ·rw[a] at hS;simp only[] at hS;refine ZrD (OC _) [] U (.t U (.c 3 U U U .n)) (hS _ _) [0,0] 3 U U U
   ·rw[a] at hS;simp only[] at hS;refine Zix (fun _ hs=>Ag (E:=Al) hs) ?_;refine ZpD (Ox _ _ _ _ _ _ U) [3] U (.t U (.c 0 U U U .n)) (hS none 0) [1,1] 3 U U U
  ·rw[e6 (by omega)] at hS;rw[hk];refine Zv (ylk 1 U U U Tryz.underlying319 Tryz.underlying114 J1)<|Zv (ydw 3 (m:=20) U U (Enc.len ..))<|Zkv (fN ..) [0] U U U U<|⟨?_,?_⟩
   refine fun a=>fun A=>Zq<|Zv (ya rfl)<|Ze (es 3 rfl rfl rfl rfl rfl)<|Zw0<|Znl<|Znx<|Zrt ?_;rotate_left;refine fun a=>Zqp<|Zp1 ?_;rotate_left
   ·rw[if_neg (by rw[a];decide)] at hS;refine ZrD (OC _) [] U (.t U (.c 3 U U U .n)) (hS _ _) [0,0] 3 U U U
   ·rw[if_pos a] at hS;refine Zix (fun _ hs=>Ag (E:=Al) hs) ?_;refine ZpD (Ox _ _ _ _ _ _ U) [3] U (.t U (.c 0 U U U .n)) (hS none 0) [1,1] 3 U U U
  ·rw[e7 (by omega)] at hS;rw[hk];refine Zv (ylk 1 U U U Tryz.underlying319 Tryz.underlying114 J1)<|Zv (ydw 3 (m:=20) U U (Enc.len ..))<|Zkv (fO ..) [0] U U U U<|⟨?_,?_⟩
   refine fun a=>Zq<|Zv (ya rfl)<|Ze (es 2 rfl rfl rfl rfl rfl)<|Zw0<|Znl<|Znx<|Zrt ?_;rotate_left;refine fun a=>Zqp<|Zp1 ?_;rotate_left
   ·rw[if_pos a] at hS;refine Zix (fun _ hs=>Ag (E:=Al) hs) ?_;refine ZrD (OC _) [] U (.t U (.c 3 U U U .n)) (hS none 0) [0,0] 3 U U U
   ·rw[if_neg (by rw[a];decide)] at hS;refine Zix (fun _ hs=>Ag (E:=Al) hs) ?_;refine ZpD (Ox _ _ _ _ _ _ U) [3] U (.t U (.c 0 U U U .n)) (hS none 0) [1,1] 3 U U U
def QO (i:Int) (n:Nat) (ways:Int):CD:=⟨i,n,ways,[],none,none⟩
theorem XW {i:Int} {n:Nat} {ways:Int} (h:BV n ways=true) (h0:0≤i) (h1:i<4):(QO i n ways).Ok:=by obtain⟨r1,r2,r3,r4,r5⟩:=FQ h;exact⟨h0,h1,by show 0<n;omega,by show n≤64;omega,by show 1≤ways;omega,by show ways≤8;omega,List.Pairwise.nil,FW.nil (by show 0≤ways;omega),fun _ _ e=>by cases e⟩
theorem c75 (i:Int) (n:Nat) (ways:Int) (h0:0≤i) (h1:i<4):Sp Tryz.prog 75 [.int .i64 i,.int .i64 (n:Int),.int .i64 ways] [] fun K=>(BV n ways=true→∀b,K (.returned (.tuple #[pt b,.int .i64 0])) [.hp (AK b (QO i n ways))])∧(BV n ways=false→K (.returned (.tuple #[.pointer none,.int .i64 2])) []):=by
 refine Zen Tryz.func75 U U U fun e X Φ hS=>Zsr<|Zb 2 U<|Zns<|Zb 2 U<|Zk (eM ..) [] U U ?_;refine⟨?_,?_⟩;refine fun a=>fun b=>Zq<|Zv (ym rfl)<|Zv (yx rfl rfl)<|Zv (yx rfl rfl)<|Zv (ya rfl)<|Zv (ya rfl)<|Znl<|Znx ?_;refine Zsq<|Zsr<|Zb 6 U ?_;refine Zm U<|Zg' U U (dF (by omega))<|Zm U<|Zg' U U (dF (by omega))<|Zv (yge U U)<|Zv (Ao U (dF (by omega)) U)<|Zn<|Df U (dF (by omega))<|Zsk ?_;refine Zxs<|Zb 2 U<|Zv (yb aZ U)<|Ze (ebx U) fun b29=>Zw<|Zb 2 U<|Zn ?_;refine Zrt ?_;rotate_left
 refine fun a=>Zq<|Zv (ym rfl)<|Zv (yx rfl rfl)<|Zv (yx rfl rfl)<|Zv (ya rfl)<|Zv (ya rfl)<|Znl<|Znx<|Zsq ?_;refine Zsr<|Zb 9 U ?_;refine Zv (ypt U U)<|Zn<|Zct U<|Zsr<|Zb 2 U<|Znr ?_;refine Zr1 ?_;rotate_left
 ·refine Zfx [] (N2) U ?_;refine Zfx [] (SJ) U ?_;refine Zfx [2,2,1,0] (Ad (b:=b29) (d:=QO i n ways) (XW a h0 h1)) U ?_;refine Zre (.t U (.t U .n)) (hS.1 a b29) [0] 0 U U U U
 ·refine Zre (.t U (.t U .n)) (hS.2 a) [] 0 U U U U
theorem Wl {a:Option (Int × Bool)} (e:a=none):∀h,Sep [] h→Ii none a h:=fun _ _=>by subst e;rfl
theorem Wu {a:Option Ln} (e:a=none):∀h,Sep [] h→Io none a h:=fun _ _=>by subst e;rfl
theorem Pb {a:Option (Int × Bool)} {b:Nat} {l:Int} {wr:Bool} (e:a=some (l,wr)):∀h,Sep [.blk b 196 [.int .u32 l,.bool wr]] h→Ii (some ⟨b,0,none⟩) a h:=fun _ hs=>by subst e;exact⟨b,rfl,hs⟩
theorem PD {a:Option Ln} {b:Nat} {x:Ln} (e:a=some x):∀h,Sep [.blk b 145 (lnE.cells x)] h→Io (some ⟨b,0,none⟩) a h:=fun _ hs=>by subst e;exact⟨b,rfl,hs⟩
theorem c42 (b:Nat) (d:CD):Sp Tryz.prog 42 [pt b] [.hp (AK b d)] fun K=>∀b',K (.returned (pt b')) [.hp (AK b' d),.hp (AK b d)]:=by
 refine Zen Tryz.func42 U U U fun e X Φ hS=>Zoc 0 Bc U<|fun ok lb pa pg hha hg=>?_;refine Zsr<|Zy U<|Aj<|Zm U<|Zk (c59 ..) [0] U U<|Zq<|Znl ?_;refine Znx<|Zcf U<|Zkn<|Zsq ?_;refine Zhd [1] U U<|Zht 0 U (ym U)<|Zht 1 U (yn U)<|Zht 2 U (yf 0 U)<|Zht 3 U (yd 0 U U U)<|Zht 4 U (ym U)<|Zht 5 U (yn U)<|Zht 6 U (yf 1 U)<|Zht 7 U (yd 0 U U U) ?_;refine ZH1 8<|Zok (c84 lb d.n d.ways d.L (by have:=ok.w0;omega) (Nat.le_trans ok.len (by decide))) [0] U U U<|fun b'=>Zqh 2 U<|Zht 9 U (yb aZ U)<|ZH1 10<|Zoe U (ebx U) fun b18=>Zwh 3 U<|Zht 11 U (ya U)<|ZHn<|Znx ?_
 rcases Option.eq_none_or_eq_some d.ask with hak|⟨⟨l,wr⟩,hak⟩
 ·have h1:=GY hha hak;subst h1;rcases Option.eq_none_or_eq_some d.giv with hgv|⟨x,hgv⟩
  ·have h2:=GY hg hgv;subst h2;refine Zsq<|Zsr<|Za 4 [2,3] U U<|Zv (DN U U U)<|Zn<|Zcf U ?_;refine Zkn<|Zsq<|Zsr<|Za 4 [3,3] U U<|Zv (DN U U U)<|Znl ?_;refine Znx<|Zcf U<|Zks<|Zb 2 U<|Znr ?_;refine Zfx [3,2,2,2] (Ad (b:=b) (d:=d) ok) U ?_;refine Zfx [] (Wl hak) U ?_;refine Zfx [] (Wu hgv) U ?_;refine Zfx [3,3,1,0] (Ad (b:=b18) (d:=d) ok) U<|Zre (.t U .n) (hS _) [0,0] 0 U U U U
  ·rw[hgv];refine Zoc 5 FK U<|fun bg eg=>?_;subst eg;refine Zsq<|Zsr<|Za 4 [2,4] U U<|Zv (DN U U U)<|Zn<|Zcf U ?_;refine Zkn<|Zsq<|Zsr<|Za 4 [3,4] U U<|Zv (DN U U U)<|Znl ?_;refine Znx<|Zct U<|Zsr<|Za 5 [3,4] U U<|Zv (ydw 0 (m:=18) U U (Enc.len ..))<|Ze (eal Fd) fun b5=>Zw ?_;refine Ze (esw 0 (m:=18) U U U U U (Enc.len ..) (Enc.allL ..))<|Zw0<|Zn<|Zrg<|Za 3 [3] U U<|Ze (es 2 U U U U U)<|Zw0<|Zn ?_;refine Zsr<|Zb 2 U<|Znr ?_;refine Zfx [1] (PD (b:=bg) hgv) U ?_;refine Zfx [5,4,4,0] (Ad (b:=b) (d:=d) ok) U ?_;refine Zfx [] (Wl hak) U ?_
   refine Zfx [2] (PD (b:=b5) hgv) U ?_;refine Zfx [3,3,1,0] (Ad (b:=b18) (d:=d) ok) U<|Zre (.t U .n) (hS _) [0,0] 0 U U U U
 ·rw[hak];refine Zoc 4 O9 U<|fun ba ea=>?_;subst ea;rcases Option.eq_none_or_eq_some d.giv with hgv|⟨x,hgv⟩
  ·have h2:=GY hg hgv;subst h2;refine Zsq<|Zsr<|Za 4 [2,4] U U<|Zv (DN U U U)<|Zn<|Zct U ?_;refine Zsr<|Za 5 [2,4] U U<|Zv (ydw 0 (m:=2) U U U)<|Ze (eal dS) fun b4=>Zw<|Ze (esw 0 (m:=2) U U U U U U U)<|Zw0<|Znl ?_;refine Znx<|Zrg<|Za 3 [2] U U<|Ze (es 2 U U U U U)<|Zw0<|Aj ?_;refine Za 4 [3,5] U U<|Zv (DN U U U)<|Zn<|Zcf U<|Zkn ?_;refine Zsr<|Zb 2 U<|Znr ?_;refine Zfx [1] (Pb (b:=ba) hak) U ?_;refine Zfx [5,4,0,3] (Ad (b:=b) (d:=d) ok) U ?_;refine Zfx [1] (Pb (b:=b4) hak) U ?_;refine Zfx [] (Wu hgv) U ?_
   refine Zfx [3,3,1,0] (Ad (b:=b18) (d:=d) ok) U<|Zre (.t U .n) (hS _) [0,0] 0 U U U U
  ·rw[hgv];refine Zoc 5 FK U<|fun bg eg=>?_;subst eg;refine Zsq<|Zsr<|Za 4 [2,5] U U<|Zv (DN U U U)<|Zn<|Zct U ?_;refine Zsr<|Za 5 [2,5] U U<|Zv (ydw 1 (m:=2) U U U)<|Ze (eal dS) fun b4=>Zw<|Ze (esw 0 (m:=2) U U U U U U U)<|Zw0<|Znl ?_;refine Znx<|Zrg<|Za 3 [2] U U<|Ze (es 3 U U U U U)<|Zw0<|Aj ?_;refine Za 4 [3,6] U U<|Zv (DN U U U)<|Zn<|Zct U<|Zsr<|Zm U ?_;refine Za 4 [3,6] U U<|Zv (ydw 1 (m:=18) U U (Enc.len ..))<|Ze (eal Fd) fun b5=>Zw<|Ze (esw 0 (m:=18) U U U U U (Enc.len ..) (Enc.allL ..))<|Zw0<|Zn<|Zrg ?_
   refine Za 3 [3] U U<|Ze (es 4 U U U U U)<|Zw0<|Zns<|Zb 2 U<|Znl ?_;refine Zxr ?_;refine Zfx [3] (Pb (b:=ba) hak) U ?_;refine Zfx [3] (PD (b:=bg) hgv) U ?_;refine Zfx [7,6,1,0] (Ad (b:=b) (d:=d) ok) U ?_;refine Zfx [2] (Pb (b:=b4) hak) U ?_;refine Zfx [2] (PD (b:=b5) hgv) U ?_;refine Zfx [3,3,1,0] (Ad (b:=b18) (d:=d) ok) U<|Zre (.t U .n) (hS _) [0,0] 0 U U U U
def BC (code:List Int) (pc:Int):Int × Bool:=if pc.tmod 4≠0 then(0,false) else match code[(pc.tdiv 4).toNat]? with|some w=>(w,true)|none=>(0,false)
theorem eO (c:Ck) (A:Option Addr) (cap:Nat) (code:List Int) (pc:Int) (hR:Rd D5 c A cap code) (hp:0≤pc∧pc<4294967296) (hl:code.length≤1048576):Sp Tryz.prog 127 [.slice A code.length cap,.int .u32 pc] [c] fun K=>K (.returned (.tuple #[.int .u32 (BC code pc).1,.bool (BC code pc).2])) [c]:=by
 have he:IntKind.u32.wrap (pc.tdiv 4)=(((pc.tdiv 4).toNat:Nat):Int):=by
  have h1:0≤pc.tdiv 4:=Int.tdiv_nonneg hp.1 (by decide);have h2:pc.tdiv 4≤pc:=by rw[Int.tdiv_eq_ediv_of_nonneg hp.1];omega
  exact F3 (by omega) (by omega)
 have hq:(pc.tdiv 4).toNat<4294967296:=by
  have h2:pc.tdiv 4≤pc:=by rw[Int.tdiv_eq_ediv_of_nonneg hp.1];omega
  omega
 refine Zen Tryz.func127 U U U fun e X Φ hS=>Zsr<|Zb 2 U<|Aj<|Zm U<|Zv (Cc U U (by decide) U) ?_;refine Zb 2 U<|Zgs U U (fun h9=>?_) (fun h9=>?_);refine Zu' U U (dT h9) U<|Zu' U U (dT h9) U<|Zu' U U (dT h9) U<|Zu' U U (dT h9) U<|Zu' U U (dT h9) U<|Zu' U U (dT h9) U<|Zv (Ax U (dT h9) U)<|Zn<|Zct U ?_;refine Zsr<|Zb 2 U<|Znr<|Zr1<|Zre (.t U (.t U .n)) hS [0] 0 ?_ U U U;rotate_left
 refine Zg' U U (dF h9)<|Zm U<|Zg' U U (dF h9)<|Zv (HV U U (by decide) U)<|Zg' U U (dF h9)<|Zv (ycv Tryz.underlying40 Tryz.underlying2 U (Ar U (by omega)))<|Zg' U U (dF h9)<|Zm U<|Zg' U U (dF h9)<|Zv (Aw ⟨_,Tryz.underlying62⟩ U) ?_;refine Zg' U U (dF h9)<|Zv (yge U U)<|Zv (Ao U (dF h9) U)<|Zn<|Zif U (fun h16=>?_) (fun h16=>?_);refine Zsr<|Zb 2 U<|Znr<|Zr1<|Zre (.t U (.t U .n)) hS [0] 0 ?_ U U U;rotate_left;refine Zks<|Zb 2 U<|Zv (HV U U (by decide) U) ?_;rotate_left
 ·rw[show BC code pc=(0,false) from if_pos h9];rfl
 ·try rw[he] at h16
  have hn:code[(pc.tdiv 4).toNat]? = none:=List.getElem?_eq_none (by omega);rw[show BC code pc=(0,false) by unfold BC;rw[if_neg h9,hn]];rfl
 ·try rw[he] at h16
  have hlt:(pc.tdiv 4).toNat<code.length:=by omega
  rw[he];rw[show BC code pc=(code[(pc.tdiv 4).toNat],true) by unfold BC;rw[if_neg h9,gE hlt]] at hS;refine Zv (yea 0 hR U U U (by first|assumption|omega) U Tryz.underlying62 U)<|Zv (yec (m:=0) 0 hR U (gE (by first|assumption|omega)) U U U)<|Zb 2 U<|Znr<|Zre (.t U (.t U .n)) hS [0] 0 U U U U
structure Cor where
 h:Hrt
 code:List Int
 size:Int
 B:List Sto
 first:Int
 res:Option Int
structure Cor.Ok (k:Nat) (c:Cor):Prop where
 h:c.h.Ok
 cu:∀a∈c.code,U32 a
 cl:c.code.length≤1024
 s0:0≤c.size
 s1:c.size≤4096
 f0:0≤c.first
 f1:c.first≤k
 res:∀a,c.res=some a→U32 a
theorem Cor.Ok.mono {k k':Nat} {c:Cor} (h:c.Ok k) (hk:k≤k'):c.Ok k':={ h with f1:=by have:=h.f1;omega }
def BG (h:Hrt) (tl:List Value):List Value:=Bh.cells h++tl
theorem Bj {h:Hrt} {tl:List Value} {q:Nat} {v:Value} (j:Nat) (hq:q=35+j) (hv:nth tl j=some v):nth (BG h tl) q=some v:=by subst hq;rw[A7] at *;unfold BG;rw[List.getElem?_append_right (by rw[show(Bh.cells h).length=35 from h.len];omega),show(Bh.cells h).length=35 from h.len,Nat.add_sub_cancel_left];exact hv
theorem XX (h:Hrt) (tl:List Value):nth (BG h tl) 34=some (.int .i64 h.cause):=by have:=EG h;rw[A7] at *;unfold BG;rw[List.getElem?_append_left (by rw[show(Bh.cells h).length=35 from h.len];decide)];exact this
theorem PX:∀(a:List Value) {tl tl':List Value} {j:Nat} {v:Value},put tl j v=some tl'→put (a++tl) (a.length+j) v=some (a++tl')
 | [],tl,tl',j,v,h=>by simpa using h
 | x::a,tl,tl',j,v,h=>by have:=PX a h;rw[show(x::a).length+j=(a.length+j)+1 by simp only[List.length_cons];omega];simp[put,this]
theorem E5 {h:Hrt} {tl tl':List Value} {q:Nat} {v:Value} (j:Nat) (hq:q=35+j) (hv:put tl j v=some tl'):put (BG h tl) q v=some (BG h tl'):=by subst hq;have:=PX (Bh.cells h) hv;rwa[show(Bh.cells h).length=35 from h.len] at this
theorem Np:∀(a a':List Value) {tl:List Value} {j:Nat} {v:Value},put a j v=some a'→put (a++tl) j v=some (a'++tl)
 | [],_,_,_,_,h=>by cases h
 | x::a,a',tl,0,v,h=>by cases h;rfl
 | x::a,a',tl,j+1,v,h=>by
  cases hp:put a j v with
  | none=>simp[put,hp] at h
  | some b=>
   simp[put,hp] at h;subst h;simp[put,Np a b hp]
theorem X8 (h:Hrt) (tl:List Value) (v:Int):put (BG h tl) 34 (.int .i64 v)=some (BG (h.setCause v) tl):=Np _ _ (Nm h v)
theorem Hu (h:Hrt) (tl:List Value):((BG h tl).drop 0).take 35=Bh.cells h:=by unfold BG;rw[List.drop_zero,List.take_left' (show(Bh.cells h).length=35 from h.len)]
theorem Sa (h h':Hrt) (tl:List Value):spl (BG h tl) 0 (Bh.cells h')=BG h' tl:=by unfold BG;show Bh.cells h'++(Bh.cells h++tl).drop (Bh.cells h').length=_;rw[show(Bh.cells h').length=(Bh.cells h).length from h'.len.trans h.len.symm,List.drop_left]
def LM (p:Option Addr):Option Int→HP
 | none=>fun _=>p=none
 | some a=>fun h=>∃b,p=some ⟨b,0,none⟩∧Sep [.blk b 40 [.int .u32 a]] h
theorem LM.is {p:Option Addr} {a:Option Int} {h:Hl} (hh:LM p a h):p.isSome=a.isSome:=by
 cases a with
 | none=>rw[show p=none from hh];rfl
 | some x=>obtain⟨b,e,_⟩:=hh;rw[e];rfl
theorem P1 {p:Option Addr} {a:Int}:Op_ (LM p (some a)) fun K=>∀b,p=some ⟨b,0,none⟩→K [.blk b 40 [.int .u32 a]] := .mk fun G k h hh=>by obtain⟨b,e,hs⟩:=hh;exact⟨_,k b e,hs⟩
theorem JP {a:Option Int} (e:a=none):∀h,Sep [] h→LM none a h:=fun _ _=>by subst e;rfl
theorem Tw {a:Option Int} {b:Nat} {x:Int} (e:a=some x):∀h,Sep [.blk b 40 [.int .u32 x]] h→LM (some ⟨b,0,none⟩) a h:=fun _ hs=>by subst e;exact⟨b,rfl,hs⟩
abbrev Kn (c:Cor) (A:Option Addr) (cap bb:Nat) (pr:Option Addr):List Value:=[.slice A c.code.length cap,.int .i64 c.size,pt bb,.int .i64 c.first,.pointer pr]
def Br (k b:Nat) (c:Cor):HP:=fun g=>c.Ok k∧∃A cap bb pr,Sep [.blk b 139 (BG c.h (Kn c A cap bb pr)),.hp (own D5 A cap c.code),.hp (DH bb c.B),.hp (LM pr c.res)] g
theorem CO {k b:Nat} {c:Cor}:Op_ (Br k b c) fun K=>c.Ok k→∀A cap bb pr,pr.isSome=c.res.isSome→K [.blk b 139 (BG c.h (Kn c A cap bb pr)),.hp (own D5 A cap c.code),.hp (DH bb c.B),.hp (LM pr c.res)] := .mk fun G k h hh=>by obtain⟨ok,A,cap,bb,pr,hs⟩:=hh;obtain⟨_,_,ha⟩:=hs.nth (i:=3) rfl;exact⟨_,k ok A cap bb pr ha.is,hs⟩
theorem Az {k b cap bb:Nat} {c:Cor} {A pr:Option Addr} (ok:c.Ok k):∀h,Sep [.blk b 139 (BG c.h (Kn c A cap bb pr)),.hp (own D5 A cap c.code),.hp (DH bb c.B),.hp (LM pr c.res)] h→Br k b c h:=fun _ hs=>⟨ok,A,cap,bb,pr,hs⟩
theorem R6 {k k' b:Nat} {c:Cor} (hk:k≤k'):∀g,Sep [.hp (Br k b c)] g→Br k' b c g:=fun g hs=>by obtain⟨h1,h2,hle,_,_,⟨ok,A,cap,bb,pr,hp⟩,_⟩:=hs;exact⟨ok.mono hk,A,cap,bb,pr,hp.up hle⟩
def Cor.setH (c:Cor) (h:Hrt):Cor:=⟨h,c.code,c.size,c.B,c.first,c.res⟩
def Cor.setB (c:Cor) (B:List Sto):Cor:=⟨c.h,c.code,c.size,B,c.first,c.res⟩
def Cor.setF (c:Cor) (f:Int):Cor:=⟨c.h,c.code,c.size,c.B,f,c.res⟩
def Cor.setR (c:Cor) (r:Option Int):Cor:=⟨c.h,c.code,c.size,c.B,c.first,r⟩
theorem Tv {p:Option Addr} {a:Option Int} (h:p.isSome=a.isSome) (hp:p.isNone=true):a=none:=by
 cases p with
 | none=>cases a with|none=>rfl|some x=>cases h
 | some x=>cases hp
theorem c53 (k b:Nat) (c:Cor):Sp Tryz.prog 53 [pt b] [.hp (Br k b c)] fun K=>K (.returned (.bool false)) [.hp (Br k b c)]:=by refine Zen Tryz.func53 U U U fun e X Φ hS=>Zoc 0 CO U<|fun ok A cap bb pr hpr=>?_;refine Zsr<|Zy U<|Zns<|Zm U<|Zv (D6 U U U)<|Zb 2 U ?_;refine Za 2 [37] U U<|Zg U U<|Zv (yd 0 U U (Bj 2 U U))<|Zg U U<|Zv (D6 U U U)<|Zb 2 U ?_;refine Znr ?_;refine Zfx [0,0,0,0] (Az (c:=c) ok) U<|Zre (.t U .n) hS [0] 0 U U U U
theorem c49 (k b:Nat) (c:Cor):Sp Tryz.prog 49 [pt b] [.hp (Br k b c)] fun K=>K (.returned (.agg (Bh.arr c.h))) [.hp (Br k b c)]:=by refine Zen Tryz.func49 U U U fun e X Φ hS=>Zsr<|Ze (eal z59) fun b2=>Zw<|Aj<|Zm U<|Zk (c53 ..) [1] U U<|Zq ?_;refine Zn<|Zcf U<|Zks<|Za 4 [0,0] U U ?_;refine Zol 0 CO U<|fun ok A cap bb pr hpr=>Zv (yda 0 (m:=35) U U (Hu _ _) (Enc.len ..))<|Ze (esw 4 (m:=35) U U U U U (Enc.len ..) (Enc.allL ..))<|Zw0<|Znr ?_;refine Zfx [0,0,0,0] (Az (c:=c) ok) U<|Zre (.wh 1 (m:=35) U U (Enc.len ..) .n) hS [0] 1 U U U U
theorem eV (k b:Nat) (c:Cor):Sp Tryz.prog 145 [pt b] [.hp (Br k b c)] fun K=>K (.returned (.bool c.res.isSome)) [.hp (Br k b (c.setR none))]:=by
 refine Zen Tryz.func145 U U U fun e X Φ hS=>Zsr<|Zy U<|Aj<|Zm U<|Zk (c53 ..) [0] U U<|Zq ?_;refine Za 4 [39] U U<|Zg U U ?_;refine Zol 0 CO U<|fun ok A cap bb pr hpr=>Zv (yd 0 U U (Bj 4 U U))<|Zg U U<|Zv (D6 U U U)<|Zv (ypf U U)<|Zn<|Zib U (fun h11=>?_) (fun h11=>?_);refine Zsr<|Zy U<|Znr<|Zr1 ?_;rotate_left;refine Zks<|Za 3 [39] U U<|Ze (es 0 U U U (E5 4 U U) U)<|Zw0<|Zns ?_;refine Zy U<|Znr ?_;rotate_left
 ·have hr:=Tv hpr h11;have hc:c.setR none=c:=by unfold Cor.setR;rw[←hr]
  rw[hc,show c.res.isSome=false by rw[hr];rfl] at hS;refine Zfx [0,0,0,0] (Az (c:=c) ok) U<|Zre (.t U .n) hS [0] 0 U U U U
 ·rw[←hpr,show pr.isSome=true by cases pr with|none=>cases h11|some x=>rfl] at hS;have ok':(c.setR none).Ok k:={ ok with res:=fun x h=>(by cases h) }
  refine Zfx [] (JP (a:=none) U) U ?_;refine Zfx [1,1,1,0] (Az (c:=c.setR none) ok') U<|Zre (.t U .n) hS [0] 1 U U U U
def Fs (c:Cor) (d:CD):Bool:=match c.res with|none=>false|some a=>decide (stateOf d.L (a/16)=0)
theorem Cf {a:Int} (h:U32 a):IntKind.u32.wrap (a.tdiv 16)=a/16∧U32 (a/16):=by unfold U32 at *;rw[Int.tdiv_eq_ediv_of_nonneg h.1,F3 (r:=a/16) rfl (by omega)];exact⟨rfl,by omega⟩
theorem c52 (k b bk:Nat) (c:Cor) (d:CD):Sp Tryz.prog 52 [pt b,pt bk] [.hp (Br k b c),.hp (AK bk d)] fun K=>K (.returned (.bool (Fs c d))) [.hp (Br k b (if Fs c d then c.setR none else c)),.hp (AK bk d)]:=by
 refine Zen Tryz.func52 U U U fun e X Φ hS=>Zsr<|Zy U<|Aj<|Zm U<|Zk (c53 ..) [0] U U<|Zq ?_;refine Za 4 [39] U U<|Zg U U ?_;refine Zol 0 CO U<|fun ok A cap bb pr hpr=>Zv (yd 0 U U (Bj 4 U U))<|Zg U U<|Zv (D6 U U U)<|Zb 2 U<|Zgb U U (fun h14=>?_) (fun h14=>?_);refine Zu' U U h14 U<|Zu' U U h14 U<|Zu' U U h14 U<|Zu' U U h14 U<|Zu' U U h14 U<|Zu' U U h14 U<|Zu' U U h14 U<|Zu' U U h14 U<|Zu' U U h14 U<|Zu' U U h14 U ?_;refine Zv (Ax U h14 U)<|Zn<|Zct U<|Zsr<|Zy U<|Znr<|Zr1 ?_;rotate_left
 refine Zg' U U h14<|Zm U<|Zg' U U h14<|Zm U<|Zg' U U h14<|Zv (yn U)<|Zg' U U h14<|Zv (yf 39 U)<|Zg' U U h14<|Zv (yd 0 U U (Bj 4 U U)) ?_;refine Zg' U U h14 ?_;rotate_left
 ·have hr:=Tv hpr h14;have hl:Fs c d=false:=by unfold Fs;rw[hr]
  rw[hl,if_neg (by decide)] at hS;refine Zfx [0,0,0,0] (Az (c:=c) ok) U<|Zre (.t U .n) hS [0,0] 0 U U U U
 ·obtain⟨a,hr⟩:∃a,c.res=some a:=by
   cases hx:c.res with
   | some a=>exact⟨a,rfl⟩
   | none=>rw[hx] at hpr;cases pr with|none=>cases h14|some x=>cases hpr
  have hl:Fs c d=decide (stateOf d.L (a/16)=0):=by unfold Fs;rw[hr]
  obtain⟨q1,q2⟩:=Cf (ok.res a hr);rw[hr];refine Zol 3 P1 U<|fun ba ea=>?_;subst ea;refine Za 2 [0] U U<|Zg U U<|Zv (HV U U (by decide) U)<|Zg U U ?_;rw[q1];refine Zk (c97 bk d (a/16) q2) [4] U U<|Zq<|Zb 2 U<|Zn<|Zif U (fun h25=>?_) (fun h25=>?_);refine Zsr<|Zy U<|Znr<|Zr1 ?_;rotate_left;refine Zks<|Za 3 [39] U U<|Ze (es 2 U U U (E5 4 U U) U)<|Zw0<|Zns ?_;refine Zy U<|Znr ?_;rotate_left
  ·rw[hl,dF h25,if_neg (by decide)] at hS;refine Zfx [1] (Tw (b:=ba) hr) U ?_;refine Zfx [2,2,2,0] (Az (c:=c) ok) U<|Zre (.t U .n) hS [0,0] 0 U U U U
  ·rw[hl,dT (Decidable.not_not.1 h25),if_pos rfl] at hS;have ok':(c.setR none).Ok k:={ ok with res:=fun x h=>(by cases h) }
   refine Zfx [] (JP (a:=none) U) U ?_;refine Zfx [3,3,3,0] (Az (c:=c.setR none) ok') U<|Zre (.t U .n) hS [0,0] 1 U U U U
theorem c83 (c:Ck) (A:Option Addr) (cap:Nat) (l:List Int) (hR:Rd D5 c A cap l) (hA:A=none→l=[]∧cap=0) (hl:l.length≤1048576):Sp Tryz.prog 83 [.slice A l.length cap] [c] fun K=>∀A' cap',K (.returned (.slice A' l.length cap')) [.hp (own D5 A' cap' l),c]:=by
 cases A with
 | none=>
  obtain⟨rfl,rfl⟩:=hA rfl;refine Zen Tryz.func83 U U U fun e X Φ hS=>Zsr<|Zy U<|Aj<|Zm U<|Zv (Ge ⟨_,Tryz.underlying62⟩ U U)<|Znl ?_;refine Znx<|Zct U<|Zsr<|Zy U<|Znr<|Zr1 ?_;refine Zix (fun _ hs=>Ag (E:=D5) hs)<|Zre (.t U .n) (hS _ _) [0,0] 0 U U U U
 | some a=>
  refine Zen Tryz.func83 U U U fun e X Φ hS=>Zsr<|Zy U<|Aj<|Zm U<|Zv (Ge ⟨_,Tryz.underlying62⟩ U U)<|Znl ?_;refine Znx<|Zcf U<|Zks ?_;refine Ze (U9 Ks)<|fun B=>Zw<|Zm U ?_;have hm:([]:List Int).length+l.length≤maxLen:=CY (by simp;omega);refine Ze (Dp 0 1 Ks U U U hR U U U (fun _ _=>U) (by simp;omega) hm)<|fun A' cap'=>Zw<|Zy U<|Znr<|Zre (.t U .n) (hS _ _) [0,0] 0 U U U U
theorem GN {i:Int} (h0:0≤i) (h1:i<4):(Fo i).Ok:=by
 have hr:∀k,(Fo i).reg k=0:=fun k=>by show(List.replicate 32 (0:Int)).getD k 0=0;rw[List.getD_eq_getElem?_getD,List.getElem?_replicate];split<;>rfl
 exact⟨h0,h1,⟨Int.le_refl 0,by show(0:Int)<4294967296;decide⟩,hr 0,fun k=>by rw[hr];exact⟨Int.le_refl 0,by decide⟩,Int.le_refl 0,by show(0:Int)≤4;decide⟩
theorem c73 (i:Int) (c:Ck) (A:Option Addr) (cap:Nat) (l:List Int) (size:Int) (h0:0≤i) (h1:i<4) (hR:Rd D5 c A cap l) (hA:A=none→l=[]∧cap=0) (hu:∀a∈l,U32 a):Sp Tryz.prog 73 [.int .i64 i,.slice A l.length cap,.int .i64 size] [c] fun K=>
  ((l.length≤1024∧0≤size∧size≤4096)→∀b,K (.returned (.tuple #[pt b,.int .i64 0])) [.hp (Br 0 b ⟨Fo i,l,size,[],0,none⟩),c])∧(¬(l.length≤1024∧0≤size∧size≤4096)→K (.returned (.tuple #[.pointer none,.int .i64 2])) [c]):=by
 refine Zen Tryz.func73 U U U fun e X Φ hS=>Zsr<|Zb 2 U<|Aj<|Zb 2 U ?_;refine Zm U<|Zg' U U (dF (by omega))<|Zm U<|Zg' U U (dF (by omega))<|Zv (yge U U)<|Zv (Ao U (dF (by omega)) U)<|Zm U<|Zg' U U (dF (by omega))<|Zm U<|Zg' U U (dF (by omega)) ?_;refine Zv (Aw ⟨_,Tryz.underlying62⟩ U)<|Zg' U U (dF (by omega))<|Zv (ygt U U)<|Zv (Ao U (dF (by omega)) U)<|Zm U<|Zgs U U (fun h19=>?_) (fun h19=>?_);refine Zu' U U (dT h19) U<|Zu' U U (dT h19) U<|Zv (Ax U (dT h19) U)<|Zb 4 U<|Zn<|Zct U ?_;refine Zsr<|Zb 2 U<|Znr<|Zr1 ?_;rotate_left
 refine Zg' U U (dF h19)<|Zm U<|Zg' U U (dF h19)<|Zv (ylt U U)<|Zv (Ao U (dF h19) U)<|Zm U<|Zgs U U (fun h23=>?_) (fun h23=>?_);refine Zu' U U (dT h23) U<|Zu' U U (dT h23) U<|Zv (Ax U (dT h23) U)<|Zn<|Zct U<|Zsr<|Zb 2 U<|Znl ?_;refine Zxr<|Zr1 ?_;rotate_left;refine Zg' U U (dF h23)<|Zm U<|Zg' U U (dF h23)<|Zv (ygt U U)<|Zv (Ao U (dF h23) U)<|Zn<|Zif U (fun h26=>?_) (fun h26=>?_);refine Zsr<|Zb 2 U<|Znr<|Zr1 ?_;rotate_left;refine Zks<|Zm U<|Zv (yb l59 U)<|Zm U ?_;rotate_left
 ·refine Zre (.t U (.t U .n)) (hS.2 (by omega)) [0] 0 U U U U
 ·refine Zre (.t U (.t U .n)) (hS.2 (by omega)) [0] 0 U U U U
 ·refine Zre (.t U (.t U .n)) (hS.2 (by omega)) [0] 0 U U U U
 ·have okc:(⟨Fo i,l,size,[],0,none⟩:Cor).Ok 0:=⟨GN h0 h1,hu,by show l.length≤1024;omega,by show 0≤size;omega,by show size≤4096;omega,Int.le_refl 0,Int.le_refl 0,fun a h=>(by cases h)⟩
  refine Zk (c83 c A cap l hR hA (by omega)) [0] U U<|fun A'=>fun cap'=>Zq<|Zm U<|Zv (yb aW U)<|Zk (Y7 ..) [] U U<|fun b=>Zq<|Zv (yb aX U) ?_;refine Ze (ebx U) fun b35=>Zw<|Zb 2 U<|Znr ?_;refine Zfx [] (JP (a:=none) U) U ?_;refine Zfx [1,2,1,0] (Az (b:=b35) (c:=⟨Fo i,l,size,[],0,none⟩) okc) U ?_;refine Zre (.t U (.t U .n)) (hS.1 (by omega) b35) [0,0] 0 U U U U
theorem R8 {h:Hrt} {tl:List Value} {n:Nat} (hn:35+tl.length=n):(BG h tl).length=n:=by unfold BG;rw[List.length_append,show(Bh.cells h).length=35 from h.len,hn]
theorem iN (c:Ck) (A:Option Addr):Sp Tryz.prog 83 [.slice A 0 0] [c] fun K=>∀A' cap',K (.returned (.slice A' 0 cap')) [.hp (own D5 A' cap' []),c]:=by
 cases A with
 | none=>
  refine Zen Tryz.func83 U U U fun e X Φ hS=>Zsr<|Zy U<|Aj<|Zm U<|Zv (Ge ⟨_,Tryz.underlying62⟩ U U)<|Znl ?_;refine Znx<|Zct U<|Zsr<|Zy U<|Znr<|Zr1 ?_;refine Zix (fun _ hs=>Ag (E:=D5) hs)<|Zre (.t U .n) (hS _ _) [0,0] 0 U U U U
 | some a=>
  refine Zen Tryz.func83 U U U fun e X Φ hS=>Zsr<|Zy U<|Aj<|Zm U<|Zv (Ge ⟨_,Tryz.underlying62⟩ U U)<|Znl ?_;refine Znx<|Zcf U<|Zks ?_;refine Ze (U9 Ks)<|fun B=>Zw<|Zm U ?_;refine Ze (iO 0 Ks U U U U (fun _ _=>U) (by decide) (by decide))<|fun A' cap'=>Zw<|Zy U<|Znr<|Zre (.t U .n) (hS _ _) [0,0] 0 U U U U
theorem iL (i:Int) (c:Ck) (A:Option Addr) (size:Int) (h0:0≤i) (h1:i<4):Sp Tryz.prog 73 [.int .i64 i,.slice A 0 0,.int .i64 size] [c] fun K=>
  ((([]:List Int).length≤1024∧0≤size∧size≤4096)→∀b,K (.returned (.tuple #[pt b,.int .i64 0])) [.hp (Br 0 b ⟨Fo i,[],size,[],0,none⟩),c])∧(¬(([]:List Int).length≤1024∧0≤size∧size≤4096)→K (.returned (.tuple #[.pointer none,.int .i64 2])) [c]):=by
 refine Zen Tryz.func73 U U U fun e X Φ hS=>Zsr<|Zb 2 U<|Aj<|Zb 2 U ?_;refine Zm U<|Zg' U U (dF (by omega))<|Zm U<|Zg' U U (dF (by omega))<|Zv (yge U U)<|Zv (Ao U (dF (by omega)) U)<|Zm U<|Zg' U U (dF (by omega))<|Zm U<|Zg' U U (dF (by omega)) ?_;refine Zv (Aw ⟨_,Tryz.underlying62⟩ U)<|Zg' U U (dF (by omega))<|Zv (ygt U U)<|Zv (Ao U (dF (by omega)) U)<|Zb 4 U ?_;refine Zm U<|Zgs U U (fun h23=>?_) (fun h23=>?_);refine Zu' U U (dT h23) U<|Zu' U U (dT h23) U<|Zv (Ax U (dT h23) U)<|Zn<|Zct U<|Zsr<|Zb 2 U<|Znl ?_;refine Zxr<|Zr1 ?_;rotate_left
 refine Zg' U U (dF h23)<|Zm U<|Zg' U U (dF h23)<|Zv (ygt U U)<|Zv (Ao U (dF h23) U)<|Zn<|Zif U (fun h26=>?_) (fun h26=>?_);refine Zsr<|Zb 2 U<|Znr<|Zr1 ?_;rotate_left;refine Zks<|Zm U<|Zv (yb l59 U)<|Zm U ?_;rotate_left
 ·refine Zre (.t U (.t U .n)) (hS.2 (by omega)) [0] 0 U U U U
 ·refine Zre (.t U (.t U .n)) (hS.2 (by omega)) [0] 0 U U U U
 ·have okc:(⟨Fo i,[],size,[],0,none⟩:Cor).Ok 0:=⟨GN h0 h1,(fun a h=>by cases h),Nat.zero_le _,by show 0≤size;omega,by show size≤4096;omega,Int.le_refl 0,Int.le_refl 0,fun a h=>(by cases h)⟩
  refine Zk (iN c A) [0] U U<|fun A'=>fun cap'=>Zq<|Zm U<|Zv (yb aW U)<|Zk (Y7 ..) [] U U<|fun b=>Zq<|Zv (yb aX U) ?_;refine Ze (ebx U) fun b35=>Zw<|Zb 2 U<|Znr ?_;refine Zfx [] (JP (a:=none) U) U ?_;refine Zfx [1,2,1,0] (Az (b:=b35) (c:=⟨Fo i,[],size,[],0,none⟩) okc) U ?_;refine Zre (.t U (.t U .n)) (hS.1 ⟨Nat.zero_le _,by omega,by omega⟩ b35) [0,0] 0 U U U U
theorem iK (i:Int) (c:Ck) (A:Option Addr) (cap:Nat) (l:List Int) (size:Int) (h0:0≤i) (h1:i<4) (hR:cap≠0→Rd D5 c A cap l) (hz:cap=0→l=[]) (hA:A=none→l=[]∧cap=0) (hu:∀a∈l,U32 a):Sp Tryz.prog 73 [.int .i64 i,.slice A l.length cap,.int .i64 size] [c] fun K=>
  ((l.length≤1024∧0≤size∧size≤4096)→∀b,K (.returned (.tuple #[pt b,.int .i64 0])) [.hp (Br 0 b ⟨Fo i,l,size,[],0,none⟩),c])∧(¬(l.length≤1024∧0≤size∧size≤4096)→K (.returned (.tuple #[.pointer none,.int .i64 2])) [c]):=by
 by_cases h:cap=0
 ·subst h;obtain rfl:=hz rfl;exact iL i c A size h0 h1
 ·exact c73 i c A cap l size h0 h1 (hR h) hA hu
theorem Ua (b:Bool):U32 (OX b):=by cases b<;>exact⟨by decide,by decide⟩
theorem bV (rd:Int→Int) (a b:Int):U32 (LJ rd a b):=by
 unfold LJ;split
 ·exact⟨by decide,by decide⟩
 ·exact BK _
theorem bY (rd:Int→Int) {a:Int} (b:Int) (h:U32 a):U32 (LL rd a b):=by
 unfold LL;split
 ·exact h
 ·exact BK _
theorem YT (a b:Int):U32 (BL a b):=BK _
theorem kA (a b:Int):U32 (orF a b):=BK _
theorem dL (a b:Int):U32 (Ur a b):=BK _
theorem YS (a b:Int):U32 (WU a b):=BK _
theorem cK (a b:Int):U32 (cJ a b):=BK _
theorem bO (a b:Int):U32 (bN a b):=BK _
theorem XR (a b:Int):U32 (Wy a b):=BK _
theorem Vy (a b:Int):U32 (S7 a b):=BK _
theorem S6 (a b:Int):U32 (PS a b):=BK _
theorem cE (a b:Int):U32 (OS a b):=BK _
theorem WE (a b:Int):U32 (ON a b):=BK _
theorem kU (a b:Int):U32 (Yr a b):=cE _ _
theorem kS (a b:Int):U32 (Ym a b):=WE _ _
theorem jU (a b:Int):U32 (ltF a b):=Ua _
theorem bH (a b:Int):U32 (XN a b):=Ua _
theorem WH {a:Int} (h:U32 a) (b:Int):U32 (VR a b):=by unfold VR;have hp:(0:Int)<2 ^ min (m31 b).toNat 32:=Int.pow_pos (by decide);obtain⟨h0,h1⟩:=h;have e:a.fdiv (2 ^ min (m31 b).toNat 32)=a/(2 ^ min (m31 b).toNat 32):=Int.fdiv_eq_ediv_of_nonneg _ (by omega);rw[e];exact⟨Int.ediv_nonneg h0 (by omega),Int.lt_of_le_of_lt (Int.ediv_le_self _ h0) h1⟩
theorem kV {a:Int} (h:U32 a) (b:Int):U32 (Ys a b):=WH h _
theorem aH (n b:Int):U32 (MO n b):=by unfold MO;split<;>exact WE _ _
theorem cL {op:Int} {p:Nat × (Int→Int→Int)} (h:fd op Kd=some p) {a b:Int} (ha:U32 a):U32 (p.2 a b):=by
 have:=Lm h;simp only[Kd,List.mem_cons,Prod.mk.injEq,List.not_mem_nil,or_false] at this;rcases this with⟨_,rfl⟩|⟨_,rfl⟩|⟨_,rfl⟩|⟨_,rfl⟩|⟨_,rfl⟩|⟨_,rfl⟩|⟨_,rfl⟩|⟨_,rfl⟩|⟨_,rfl⟩|⟨_,rfl⟩|⟨_,rfl⟩|⟨_,rfl⟩|⟨_,rfl⟩|⟨_,rfl⟩|⟨_,rfl⟩|⟨_,rfl⟩|⟨_,rfl⟩|⟨_,rfl⟩|⟨_,rfl⟩|⟨_,rfl⟩|⟨_,rfl⟩|⟨_,rfl⟩|⟨_,rfl⟩|⟨_,rfl⟩|⟨_,rfl⟩|⟨_,rfl⟩|⟨_,rfl⟩
 all_goals dsimp only
 all_goals first
  | with_reducible exact bV _ _ _
  | with_reducible exact bY _ _ ha
  | with_reducible exact WH ha _
  | with_reducible exact kV ha _
  | with_reducible exact jU _ _
  | with_reducible exact bH _ _
  | with_reducible exact YT _ _
  | with_reducible exact kA _ _
  | with_reducible exact dL _ _
  | with_reducible exact YS _ _
  | with_reducible exact cK _ _
  | with_reducible exact bO _ _
  | with_reducible exact XR _ _
  | with_reducible exact Vy _ _
  | with_reducible exact S6 _ _
  | with_reducible exact kU _ _
  | with_reducible exact kS _ _
theorem cN {h:Hrt} {i:Ins} {a:Ans} {v:Int} (ok:h.Ok) (hi:U32 i.imm) (ha:U32 a.value) (e:Ma h i a=some v):U32 v:=by
 unfold Ma at e;split at e
 ·rename_i p hp;cases e;exact cL hp (ok.reg _)
 ·unfold FB at e
  repeat' split at e
  all_goals first
   | (cases e;done)
   | (cases e;first|with_reducible exact hi|with_reducible exact BK _|with_reducible exact Ua _|with_reducible exact Ww ha _|with_reducible exact aH _ _|exact ha)
theorem YU {a:Acc} {x:Ans}:U32 (Hk a x).value:=by
 unfold Hk;split
 ·exact BK _
 ·split
  ·exact u0
  ·exact u0
theorem bP (h:Hrt) (i:Ins):U32 (CS h i).1:=by
 unfold CS
 repeat' split
 all_goals exact BK _
theorem JU (h:Hrt) (k:Nat) (v:Int) (hk:k<32) (j:Nat):(h.setReg k v).reg j=if j=k then v else h.reg j:=by
 unfold Hrt.reg Hrt.setReg;by_cases e:j=k
 ·subst e;rw[if_pos rfl,List.getD_eq_getElem?_getD,List.getElem?_set_self (by rw[h.hr];exact hk)];rfl
 ·rw[if_neg e,List.getD_eq_getElem?_getD,List.getElem?_set_ne (fun x=>e x.symm),←List.getD_eq_getElem?_getD]
theorem Hrt.Ok.setPc {h:Hrt} (ok:h.Ok) {v:Int} (hv:U32 v):(h.setPc v).Ok:=⟨ok.id0,ok.id1,hv,ok.r0,ok.reg,ok.c0,ok.c1⟩
theorem Hrt.Ok.setCause {h:Hrt} (ok:h.Ok) {v:Int} (h0:0≤v) (h4:v≤4):(h.setCause v).Ok:=⟨ok.id0,ok.id1,ok.pc,ok.r0,ok.reg,h0,h4⟩
theorem Hrt.Ok.setReg {h:Hrt} (ok:h.Ok) {k:Nat} {v:Int} (hk:k<32) (h0:k≠0) (hv:U32 v):(h.setReg k v).Ok:=⟨ok.id0,ok.id1,ok.pc,by rw[JU h k v hk,if_neg (fun x=>h0 x.symm)];exact ok.r0,fun j=>by
 rw[JU h k v hk];split
 ·exact hv
 ·exact ok.reg j,ok.c0,ok.c1⟩
theorem VL {h:Hrt} {w size c:Int} (e:DL h w size = .error c):0≤c∧c≤4:=by
 unfold DL at e
 repeat' split at e
 all_goals first
  | (cases e;done)
  | (cases e;exact⟨by decide,by decide⟩)
theorem Xt {h:Hrt} {w size:Int} {a:Ans} (ok:h.Ok) (ha:U32 a.value):(EX h w size a).1.Ok:=by
 unfold EX;split
 ·exact GN (by decide) (by decide)
 ·split
  ·rename_i c e;obtain⟨h0,h4⟩:=VL e;exact ok.setCause h0 h4
  ·rename_i i ac p e;obtain⟨rfl,rfl,rfl⟩:=G4 e;have io:=Hx w;have hp:=bP h (AO w).1;cases hv:Ma h (AO w).1 a with
   | none=>exact ok.setPc hp
   | some v=>
    dsimp only;split
    ·rename_i hd;exact(ok.setReg io.d (fun x=>by simp[x] at hd) (cN ok io.im ha hv)).setPc hp
    ·exact ok.setPc hp
theorem R5 {h:Hrt} (w size:Int) (a:Ans) (ok:h.Ok):(DP h w size a).1.Ok:=by
 unfold DP;split
 ·exact GN (by decide) (by decide)
 ·exact Xt ok YU
abbrev Ic (A:Option Addr) (n cap:Nat):=LD (.iface 333 (.agg #[.slice A n cap]))
theorem UN (fine:Bool):Sp Tryz.prog 186 [.bool fine] [] fun K=>(fine=true→K (.returned (.tuple #[])) [])∧(fine=false→K (.panicked (Ic none 0 0)) []):=by
 cases fine with
 | true=>
  refine Zen Tryz.func186 U U U fun e X Φ hS=>Zsr<|Zb 2 U<|Zn<|Zcf U<|Zsk<|Zee ?_;refine Zre .n (hS.1 U) [] 0 U U U U
 | false=>
  refine Zen Tryz.func186 U U U fun e X Φ hS=>Zsr<|Zb 2 U<|Zn<|Zct U<|Zrg<|Zv (yb bE U)<|Zv (ymi Tryz.underlying333 U U) ?_;refine Zpn U ?_;refine Zpe (hS.2 U) [] 0 U U
def BO (bc bk:Nat) (pick w:Int) (a:Acc):List Value:=[pt bc,pt bk,.int .i64 pick,.int .u32 w,.int .i64 a.kind,.int .u32 a.addr,.int .i64 a.width,.int .u32 a.value,.int .i64 a.op,.bool a.aq,.bool a.rl]
theorem RT (b bc bk:Nat) (pick w:Int) (a:Acc) (ha:U32 a.addr):Sp Tryz.prog 296 [pt b] [.blk b 294 (BO bc bk pick w a)] fun K=>K (.returned (.int .u32 (a.addr/16))) [.blk b 294 (BO bc bk pick w a)]:=by have q:=(Cf ha).1;refine Zen Tryz.func296 U U U fun e X Φ hS=>Zsr<|Zy U<|Zns<|Za 4 [4,1] U U ?_;refine Zv (yd 0 U U U)<|Zv (HV U U (by decide) U)<|Zy U<|Znr<|Zre (.t U .n) hS [0] 0 ?_ U U U;rw[q];rfl
theorem UO (b bc bk:Nat) (pick w line:Int) (wr:Bool) (a:Acc) (d:CD) (hl:U32 line) (hp : -9223372036854775808≤pick∧pick≤9223372036854775807):Sp Tryz.prog 188 [pt b,.int .u32 line,.bool wr] [.blk b 294 (BO bc bk pick w a),.hp (AK bk d)] fun K=>∀A cap,K (.panicked (Ic A (askF d line hl wr pick).2.1.length cap)) [.hp (own Al A cap (askF d line hl wr pick).2.1),.blk b 294 (BO bc bk pick w a),.hp (AK bk (askF d line hl wr pick).1)]:=by
 refine Zen Tryz.func188 U U U fun e X Φ hS=>?_;refine Zsq ?_;refine Zhd [1] U U<|Zht 0 U (ym U)<|Zht 1 U (yn U)<|Zht 2 U (yf 1 U)<|Zht 3 U (yd 0 U U U)<|Zht 4 U (ym U)<|Zht 5 U (ym U)<|Zht 6 U (ym U)<|Zht 7 U (yn U)<|Zht 8 U (yf 2 U) ?_;refine Zht 9 U (yd 0 U U U) ?_;refine ZH1 10<|Zok (fY bk d line pick wr hl hp) [0] U U U<|fun A=>fun cap=>Zqh 2 U<|Zht 11 U (ym U)<|Zht 12 U (yx U U)<|Zht 13 U (yx U U)<|Zht 14 U (ya U)<|Zht 15 U (ya U)<|ZHn ?_;refine Znx<|Zrg<|Zm U<|Zv (yb bE U)<|Zv (ymi Tryz.underlying333 U U)<|Zpn U ?_;refine Zpe (hS _ _) [0,1,0] 0 U U
theorem UU (b bc bk k:Nat) (pick w:Int) (a:Acc) (c:Cor):Sp Tryz.prog 250 [pt b] [.blk b 294 (BO bc bk pick w a),.hp (Br k bc c)] fun K=>(c.B=[]→K (.returned (.tuple #[])) [.blk b 294 (BO bc bk pick w a),.hp (Br k bc c)])∧(c.B≠[]→K (.panicked (Ic none 0 0)) [.blk b 294 (BO bc bk pick w a),.hp (Br k bc c)]):=by
 refine Zen Tryz.func250 U U U fun e X Φ hS=>Zoc 1 CO U<|fun ok A cap bb pr hpr=>?_;refine Zrg<|Za 6 [0,4,37] U U<|Zv (yd 0 U U (Bj 2 U U))<|Zk (UL ..) [2] U U<|Zq ?_;refine Zv (yeq U U)<|Zk (UN ..) [] U U<|⟨?_,?_⟩
 refine fun a_1=>Zq<|Znl<|Zee ?_;rotate_left;refine fun a_1=>Zqp ?_;rotate_left
 ·refine Zfx [1,1,0,0] (Az (c:=c) ok) U ?_;refine Zre .n (hS.1 (List.length_eq_zero_iff.1 (by have:=of_decide_eq_true a_1;omega))) [1,0] 0 U U U U
 ·refine Zfx [1,1,0,0] (Az (c:=c) ok) U ?_;refine Zpe (hS.2 (fun h=>of_decide_eq_false a_1 (by rw[h];rfl))) [1,0] 0 U U
end Go.Proofs.YtpfijldkkfiooaaGreatDoor
