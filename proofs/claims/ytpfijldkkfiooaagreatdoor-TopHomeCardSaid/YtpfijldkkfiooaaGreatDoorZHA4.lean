/-
  Part 4 of what the claim stands on: walks through the code, plain laws.
-/
import Derived.Test.YtpfijldkkfiooaaGreatDoorZHA3
set_option linter.unusedVariables false
set_option linter.unusedSimpArgs false
namespace Go.Proofs.YtpfijldkkfiooaaGreatDoor
open Go
set_option maxRecDepth 4000
def wE:Enc Tryz.prog Sto where
 T:=212
 n:=3
 cells:=Sto.cells
 len _:=rfl
 one x:=one_of rfl
 pos:=by decide
def wOk (n:Int):Bool:=decide (n=1) || decide (n=2) || decide (n=4)
def okV (s:Sto):Bool:=(decide (s.width=1) && decide (s.value<256)) || (decide (s.width=2) && decide (s.value<65536)) || decide (s.width=4)
def chkS (s:Sto):Int:=if okV s then (if s.addr%s.width=0 then 0 else 120) else 2
structure Sto.Ok (s:Sto):Prop where
 ad:U32 s.addr
 va:U32 s.value
structure Sto.In (s:Sto):Prop extends Sto.Ok s where
 ck:chkS s=0
theorem Sto.In.spec {s:Sto} (h:s.In):(s.width=1∧s.value<256∨s.width=2∧s.value<65536∨s.width=4)∧s.addr%s.width=0:=by
 have h:=h.ck
 unfold chkS okV at h
 split at h
 ·rename_i h1
  split at h
  ·rename_i h2
   simp at h1
   exact ⟨by omega,h2⟩
  ·omega
 ·omega
structure BufS where
 r0:Sto
 r1:Sto
 r2:Sto
 r3:Sto
 first:Nat
 n:Nat
deriving DecidableEq
def BufS.cells (x:BufS):List Value:=[.int .u32 x.r0.addr,.int .i64 x.r0.width,.int .u32 x.r0.value,.int .u32 x.r1.addr,.int .i64 x.r1.width,.int .u32 x.r1.value,.int .u32 x.r2.addr,.int .i64 x.r2.width,.int .u32 x.r2.value,
 .int .u32 x.r3.addr,.int .i64 x.r3.width,.int .u32 x.r3.value,.int .i64 ((x.first:Nat):Int),.int .i64 ((x.n:Nat):Int)]
def bufE:Enc Tryz.prog BufS where
 T:=245
 n:=14
 cells:=BufS.cells
 len:=fun _=>rfl
 one:=fun _=>one_of rfl
 pos:=by decide
def buf0:BufS:=⟨sto0,sto0,sto0,sto0,0,0⟩
def BufS.get (x:BufS):Nat→Sto
 | 0=>x.r0
 | 1=>x.r1
 | 2=>x.r2
 | _=>x.r3
def BufS.set (x:BufS) (i:Nat) (s:Sto):BufS:=
 match i with
 | 0=>{ x with r0:=s }
 | 1=>{ x with r1:=s }
 | 2=>{ x with r2:=s }
 | _=>{ x with r3:=s }
section
variable {x:BufS} {i j:Nat} {s:Sto}
theorem four {p:Nat→Prop} (h0:p 0) (h1:p 1) (h2:p 2) (h3:p 3) {i:Nat} (hi:i<4):p i:=by
 match i,hi with
 | 0,_=>exact h0
 | 1,_=>exact h1
 | 2,_=>exact h2
 | 3,_=>exact h3
theorem get_set (hi:i<4) (hj:j<4):(x.set i s).get j=if i=j then s else x.get j:=by
 revert hj
 refine four (p:=fun i=>j<4→(x.set i s).get j=if i=j then s else x.get j) ?_ ?_ ?_ ?_ hi <;> intro hj <;>
  refine four (p:=fun j=>BufS.get (BufS.set x _ s) j=if _=j then s else x.get j) ?_ ?_ ?_ ?_ hj <;> rfl
theorem set_first:(x.set i s).first=x.first:=by unfold BufS.set;split <;> rfl
theorem set_n:(x.set i s).n=x.n:=by unfold BufS.set;split <;> rfl
theorem buf_part (hi:i<4):((bufE.cells x).drop (i*3)).take 3=stoE.cells (x.get i):=by
 refine four (p:=fun i=>((bufE.cells x).drop (i*3)).take 3=stoE.cells (x.get i)) ?_ ?_ ?_ ?_ hi <;> rfl
theorem buf_put (hi:i<4):spl (bufE.cells x) (i*3) (stoE.cells s)=bufE.cells (x.set i s):=by
 refine four (p:=fun i=>spl (bufE.cells x) (i*3) (stoE.cells s)=bufE.cells (x.set i s)) ?_ ?_ ?_ ?_ hi <;> rfl
end
structure BufOf (x:BufS) (l:List Sto):Prop where
 first:x.first<4
 n:x.n=l.length
 most:l.length≤4
 el:∀ k,k<l.length→x.get ((x.first+k)%4)=l.getD k sto0
 al:∀ s∈l,s.In
theorem BufOf.nil:BufOf buf0 []:=⟨by decide,rfl,by decide,fun k hk=>absurd hk (by simp),by simp⟩
def BufS.popd (x:BufS):BufS:=⟨(x.set (x.first%4) sto0).r0,(x.set (x.first%4) sto0).r1,(x.set (x.first%4) sto0).r2,(x.set (x.first%4) sto0).r3,(x.first+1)%4,x.n-1⟩
def BufS.pushd (x:BufS) (s:Sto):BufS:=⟨(x.set ((x.first+x.n)%4) s).r0,(x.set ((x.first+x.n)%4) s).r1,(x.set ((x.first+x.n)%4) s).r2,(x.set ((x.first+x.n)%4) s).r3,x.first,x.n+1⟩
theorem get_eq {x y:BufS} (h0:x.r0=y.r0) (h1:x.r1=y.r1) (h2:x.r2=y.r2) (h3:x.r3=y.r3) (j:Nat):x.get j=y.get j:=by
 unfold BufS.get
 split <;> assumption
section
variable {x:BufS} {l:List Sto}
theorem BufOf.push (h:BufOf x l) (s:Sto) (hs:s.In) (hl:l.length<4):BufOf (x.pushd s) (l++[s]):=by
 have h1:=h.first
 have h2:=h.n
 refine ⟨h1,by simp [BufS.pushd,h2],by simp;omega,fun k hk=>?_,by simpa using fun s' hs'=>hs'.elim (h.al s') fun e=>e ▸ hs⟩
 rw [get_eq (x:=x.pushd s) (y:=x.set ((x.first+x.n)%4) s) rfl rfl rfl rfl]
 show (x.set ((x.first+x.n)%4) s).get ((x.first+k)%4)=_
 rw [get_set (Nat.mod_lt _ (by decide)) (Nat.mod_lt _ (by decide))]
 simp only [List.length_append,List.length_cons,List.length_nil] at hk
 by_cases hkl:k<l.length
 ·rw [if_neg (by omega),h.el k hkl]
  simp [List.getD,List.getElem?_append_left hkl]
 ·obtain rfl:k=l.length:=by omega
  rw [if_pos (by omega)]
  simp [List.getD]
theorem BufOf.pop (h:BufOf x l) (hl:0<l.length):BufOf x.popd l.tail:=by
 have h1:=h.first
 have h2:=h.n
 have h3:=h.most
 refine ⟨Nat.mod_lt _ (by decide),by simp [BufS.popd,h2],by simp;omega,fun k hk=>?_,fun s hs=>h.al s (List.mem_of_mem_tail hs)⟩
 simp at hk
 rw [get_eq (x:=x.popd) (y:=x.set (x.first%4) sto0) rfl rfl rfl rfl]
 show (x.set (x.first%4) sto0).get (((x.first+1)%4+k)%4)=_
 rw [get_set (Nat.mod_lt _ (by decide)) (Nat.mod_lt _ (by decide)),if_neg (by omega),show ((x.first+1)%4+k)%4=(x.first+(k+1))%4 by omega,h.el (k+1) (by omega)]
 simp [List.getD]
end
def bufC (b:Nat) (l:List Sto):HP:=fun h=>∃ X,BufOf X l∧Sep [.blk b 245 (bufE.cells X)] h
theorem buf_op {b:Nat} {l:List Sto}:Op_ (bufC b l) fun K=>∀ X,BufOf X l→K [.blk b 245 (bufE.cells X)] := .mk fun G k h hh=>by
 obtain ⟨X,h1,h2⟩:=hh
 exact ⟨_,k X h1,h2⟩
theorem buf_fold {b:Nat} {l:List Sto} {X:BufS} (hX:BufOf X l):∀ h,Sep [.blk b 245 (bufE.cells X)] h→bufC b l h:=fun _ hs=>⟨X,hX,hs⟩
theorem buf_foldc {b:Nat} {l:List Sto} {X:BufS} {cs:List Value} (hX:BufOf X l) (hc:cs=bufE.cells X):∀ h,Sep [.blk b 245 cs] h→bufC b l h:=hc ▸ buf_fold hX
theorem yaj {P:Program} {N:Nat × List Deferred} {T:Tb} {e:World} {L:List Ck} {x y:Operand} {t ty:TypeId} {pos:String} {af:Array Edge} {g:Option (Nat × Bool)} {dd:Option Nat} {k:IntKind} {b q i len:Nat} {el:TypeId} (s:Nat) {q':Nat} (hu:P.underlying t=some (.array len el)) (h:evT T x=some (.pointer (some ⟨b,q,none⟩))) (h1:evT T y=some (.int k ((i:Nat):Int))) (hi:i<len) (hq:q+i*s=q') (hs:szT P el=some s:=by kernel_rfl):Yl P N T e L ⟨dd,.indexAddr t x y,ty,pos,af,g⟩ (.pointer (some ⟨b,q',none⟩)):=fun _ _ fr _=>
 x_indexArr hu hs rfl (fr.evT h) (fr.evT h1) hi hq
theorem esc {P:Program} {N:Nat × List Deferred} {T:Tb} {e:World} {L L':List Ck} {x y:Operand} {t ty:TypeId} {pos:String} {af:Array Edge} {g:Option (Nat × Bool)} {dd:Option Nat} (i:Nat) {b q tb m:Nat} {cs cs' vs:List Value} (h:evT T x=some (.pointer (some ⟨b,q,none⟩))) (h1:evT T y=some (.agg vs.toArray)) (hL:nth L i=some (.blk b tb cs)) (hc:spl cs q vs=cs') (hL':put L i (.blk b tb cs')=some L') (hv:vs.length=m) (hq:q+m≤cs.length) (h2:vs.all (·.oneCell')=true) (hm:szT P t=some m:=by kernel_rfl) :
  Ef P N T e L ⟨dd,.store t x y,ty,pos,af,g⟩ fun K=>K none L':=by subst hc;exact esa i h h1 hL hL' hv hq h2 hm
theorem c292 (n:Int):Sp Tryz.prog 292 [.int .i64 n] [] fun K=>K (.returned (.bool (wOk n))) []:=by
 refine Zen Tryz.func292 U U U fun e X Φ hS=>Zsr<|Zy U<|Zns<|Zb 3 U<|Zgs U U (fun h5=>?_) (fun h5=>?_)
 refine Zu' U U (dT h5) U<|Zu' U U (dT h5) U<|Zv (ypt' U (dT h5) U)<|Zb 5 U<|Zn ?_
 refine Zrt<|Zre (.t U .n) hS [] 0 ?_ U U U
 rotate_left
 refine Zg' U U (dF h5)<|Zm U<|Zg' U U (dF h5)<|Zv (yeq U U)<|Zv (ypf' U (dF h5) U)<|Zm U<|Zgs U U (fun h9=>?_) (fun h9=>?_)
 refine Zu' U U (dT h9) U<|Zu' U U (dT h9) U<|Zv (ypt' U (dT h9) U)<|Zy U<|Znr<|Zre (.t U .n) hS [] 0 ?_ U U U
 rotate_left
 refine Zg' U U (dF h9)<|Zm U<|Zg' U U (dF h9)<|Zv (yeq U U)<|Zv (ypf' U (dF h9) U)<|Zy U<|Znr<|Zre (.t U .n) hS [] 0 ?_ U U U
 rotate_left
 ·simp [pk,wOk, *]
 ·simp [pk,wOk, *]
 ·simp [pk,wOk, *]
theorem c294 (s:Sto) (h:U32 s.addr:=by assumption):Sp Tryz.prog 294 [.agg (wE.arr s)] [] fun K=>K (.returned (.int .u64 s.addr)) []:=by
 unfold U32 at h
 refine Zen Tryz.func294 U U U fun e X Φ hS=>Zsr<|Ze (ebxE U) fun b1=>Zw<|Zy U<|Zns<|Za 3 [0,0,0] U U ?_
 refine Zv (ycv Tryz.underlying40 Tryz.underlying330 U (u64w U (by omega)))<|Zy U<|Znr<|Zre (.t U .n) hS [] 1 U U U U
theorem c293 (s:Sto) (h:U32 s.addr:=by assumption) (hw:wOk s.width=true:=by assumption):Sp Tryz.prog 293 [.agg (wE.arr s)] [] fun K=>K (.returned (.int .u64 (s.addr+s.width))) []:=by
 unfold U32 at h
 simp [wOk] at hw
 refine Zen Tryz.func293 U U U fun e X Φ hS=>Zsr<|Ze (ebxE U) fun b1=>Zw<|Zy U<|Zns<|Za 3 [0,0,0] U U ?_
 refine Zv (ycv Tryz.underlying40 Tryz.underlying330 U (u64w U (by omega)))<|Za 3 [0,1,0] U U<|Zv (ycv Tryz.underlying3 Tryz.underlying330 U (u64w U (by omega)))<|Zv (yadd U U (u64w U (by omega)))<|Zy U<|Znr ?_
 refine Zre (.t U .n) hS [] 1 U U U U
theorem chk_no {s:Sto} (h:wOk s.width=false):chkS s=2:=by
 unfold chkS okV
 simp [wOk] at h
 simp [h]
theorem shr_at (m:Int) (j:Nat) (h:j≤32):m.fdiv (2 ^ min j IntKind.u32.bits)=m/2 ^ j:=by
 rw [Int.fdiv_eq_ediv_of_nonneg _ (Int.le_of_lt (Int.pow_pos (by decide))),Nat.min_eq_left (by simpa [IntKind.bits] using h)]
theorem chk_big {s:Sto} (h0:0≤s.value) (h:wOk s.width=true) (h4:s.width<4) (hv:s.value.fdiv (2 ^ min (8*s.width).toNat IntKind.u32.bits)≠0):2=chkS s:=by
 have:okV s=false:=by
  simp [wOk] at h
  unfold okV
  rcases h with (h | h) | h
  ·rw [h] at hv ⊢
   rw [shr_at _ _ (by decide)] at hv
   simp at *
   omega
  ·rw [h] at hv ⊢
   rw [shr_at _ _ (by decide)] at hv
   simp at *
   omega
  ·omega
 unfold chkS
 rw [this]
 rfl
theorem chk_fit {s:Sto} (ha:0≤s.value) (h:wOk s.width=true) (hv:s.width<4→¬ s.value.fdiv (2 ^ min (8*s.width).toNat IntKind.u32.bits)≠0):okV s=true:=by
 simp [wOk] at h
 unfold okV
 rcases h with (h | h) | h
 ·have hv:=hv (by omega)
  rw [h] at hv ⊢
  rw [shr_at _ _ (by decide)] at hv
  simp at *
  omega
 ·have hv:=hv (by omega)
  rw [h] at hv ⊢
  rw [shr_at _ _ (by decide)] at hv
  simp at *
  omega
 ·simp [h]
theorem chk_al {s:Sto} (ha:0≤s.addr) (ho:okV s=true):(s.addr.tmod s.width≠0→120=chkS s)∧(¬ s.addr.tmod s.width≠0→0=chkS s):=by
 unfold chkS
 rw [if_pos ho,Int.tmod_eq_emod_of_nonneg ha]
 constructor
 ·intro h;rw [if_neg h]
 ·intro h;rw [if_pos (by simpa using h)]
theorem c297 (s:Sto) (ok:s.Ok):Sp Tryz.prog 297 [.agg (wE.arr s)] [] fun K=>K (.returned (.int .i64 (chkS s))) []:=by
 have ha:=ok.ad
 have hv:=ok.va
 unfold U32 at ha hv
 cases hk:wOk s.width with
 | true=>
  have hw:s.width=1∨s.width=2∨s.width=4:=by simp [wOk] at hk;omega
  refine Zen Tryz.func297 U U U fun e X Φ hS=>Zsr<|Ze (ebxE U) fun b1=>Zw<|Zy U<|Znq<|Zbl<|Zsr<|Zv (yf 0 U) ?_
  refine Za 2 [1,0] U U<|Zk (c292 ..) [] U U<|Zq<|Zb 2 U<|Zg' U U (congrArg Bool.not hk)<|Zv (yf 0 U)<|Zg' U U (congrArg Bool.not hk)<|Zv (yf 1 U) ?_
  refine Zg' U U (congrArg Bool.not hk)<|Zv (yd 0 U U U)<|Zg' U U (congrArg Bool.not hk)<|Zv (ylt U U)<|Zg' U U (congrArg Bool.not hk)<|Zm U<|Zgs U U (fun h14=>?_) (fun h14=>?_)
  refine Zg' U U (dT h14)<|Zv (yf 0 U)<|Zg' U U (dT h14)<|Zv (yf 2 U)<|Zg' U U (dT h14)<|Zv (yd 0 U U U)<|Zg' U U (dT h14)<|Zv (yf 0 U)<|Zg' U U (dT h14)<|Zv (yf 1 U) ?_
  refine Zg' U U (dT h14)<|Zv (yd 0 U U U)<|Zg' U U (dT h14)<|Zv (ymul U U (i64w U (by omega)))<|Zg' U U (dT h14)<|Zv (yshr U U (by omega) U)<|Zg' U U (dT h14)<|Zv (yne U U)<|Zg' U U (congrArg Bool.not hk)<|Zv (ypt' U (dT h14) U) ?_
  refine Zv (ypf' U (congrArg Bool.not hk) U)<|Zy U<|Zn<|Zif U (fun h3=>?_) (fun h3=>?_)
  refine Zsr<|Zy U<|Znr<|Zr2<|Zr1<|Zre (.t U .n) hS [] 1 ?_ U U U
  rotate_left
  refine Zsr<|Za 6 [0,0,0,0,1,0] U U<|Zv (ycv Tryz.underlying3 Tryz.underlying40 U (u32w U (by omega)))<|Zv (yrem U U (by omega) U)<|Zv (yne U U) ?_
  refine Zy U<|Zn<|Zif U (fun h26=>?_) (fun h26=>?_)
  refine Zsr<|Zy U<|Znr<|Zr2<|Zr1<|Zre (.t U .n) hS [] 1 ?_ U U U
  rotate_left
  refine Zsk<|Zxn<|Zxs<|Zy U<|Znr<|Zre (.t U .n) hS [] 1 ?_ U U U
  rotate_left
  refine Zu' U U (dF h14) U<|Zu' U U (dF h14) U<|Zu' U U (dF h14) U<|Zu' U U (dF h14) U<|Zu' U U (dF h14) U<|Zu' U U (dF h14) U<|Zu' U U (dF h14) U<|Zu' U U (dF h14) U<|Zu' U U (dF h14) U<|Zg' U U (congrArg Bool.not hk) ?_
  refine Zv (ypf' U (dF h14) U)<|Zv (ypf' U (congrArg Bool.not hk) U)<|Zy U<|Zn<|Zcf U<|Zsr<|Za 3 [0,0,0] U U ?_
  refine Za 3 [0,1,0] U U<|Zv (ycv Tryz.underlying3 Tryz.underlying40 U (u32w U (by omega)))<|Zv (yrem U U (by omega) U)<|Zb 2 U<|Zn<|Zif U (fun h26=>?_) (fun h26=>?_)
  refine Zsr<|Zy U<|Znr<|Zr2<|Zr1<|Zre (.t U .n) hS [] 1 ?_ U U U
  rotate_left
  refine Zsk<|Zxn<|Zxs<|Zy U<|Znr<|Zre (.t U .n) hS [] 1 ?_ U U U
  rotate_left
  ·exact congrArg (Value.int .i64) (chk_big hv.1 hk (by assumption) h3)
  ·exact congrArg (Value.int .i64) ((chk_al ha.1 (chk_fit hv.1 hk fun _=>h3)).1 h26)
  ·exact congrArg (Value.int .i64) ((chk_al ha.1 (chk_fit hv.1 hk fun _=>h3)).2 h26)
  ·exact congrArg (Value.int .i64) ((chk_al ha.1 (chk_fit hv.1 hk fun h=>absurd h (by assumption))).1 h26)
  ·exact congrArg (Value.int .i64) ((chk_al ha.1 (chk_fit hv.1 hk fun h=>absurd h (by assumption))).2 h26)
 | false=>
  rw [chk_no hk]
  refine Zen Tryz.func297 U U U fun e X Φ hS=>Zsr<|Ze (ebxE U) fun b1=>Zw<|Zy U<|Znq<|Zbl<|Zsr<|Zv (yf 0 U) ?_
  refine Za 2 [1,0] U U<|Zk (c292 ..) [] U U<|Zq<|Zb 2 U<|Zu' U U (congrArg Bool.not hk) U<|Zu' U U (congrArg Bool.not hk) U<|Zu' U U (congrArg Bool.not hk) U<|Zu' U U (congrArg Bool.not hk) U ?_
  refine Zu' U U (congrArg Bool.not hk) U<|Zb 9 U ?_
  refine Zu' U U (congrArg Bool.not hk) U<|Zv (ypt' U (congrArg Bool.not hk) U)<|Zy U<|Zn<|Zct U<|Zsr<|Zy U<|Zn ?_
  refine Zrt<|Zr2<|Zr1<|Zre (.t U .n) hS [] 1 U U U U
theorem c148 (b:Nat) (l:List Sto):Sp Tryz.prog 148 [pt b] [.hp (bufC b l)] fun K=>K (.returned (.int .i64 (l.length:Int))) [.hp (bufC b l)]:=by
 refine Zen Tryz.func148 U U U fun e X Φ hS=>Zoc 0 buf_op U<|fun X hX=>Zsr<|Zy U<|Znqs<|Zm U<|Zv (ypeq U U U)<|Znl ?_
 refine Znx<|Zcf U<|Zks<|Za 5 [13,0] U U ?_
 refine Znr ?_
 rw [hX.n]
 refine Zfx [0] (buf_fold hX) U<|Zre (.t U .n) hS [0] 0 U U U U
theorem c149 (b k:Nat) (Y:BufS) (h1:Y.first<4) (hk:k≤4):Sp Tryz.prog 149 [pt b,.int .i64 (k:Int)] [.blk b 245 (bufE.cells Y)] fun K=>K (.returned (.pointer (some ⟨b,(Y.first+k)%4*3,none⟩))) [.blk b 245 (bufE.cells Y)]:=by
 refine Zen Tryz.func149 U U U fun e X Φ hS=>Zsr<|Zy U<|Znq<|Zhd [] U U<|Zht 0 U (ym U)<|Zht 1 U (ym U)<|Zht 2 U (yn U) ?_
 refine Zht 3 U (yf 12 U)<|Zht 4 U (yd 0 U U U)<|Zht 5 U (ym U)<|Zht 6 U (yadd U U (i64w U (by omega)))<|Zht 7 U (yrem U U (by decide) U)<|Zht 8 U (yn U)<|Zht 9 U (yf 0 U) ?_
 refine Zht 10 U (yaj (i:=(Y.first+k)%4) 3 Tryz.underlying243 U U (Nat.mod_lt _ (by decide)) (Nat.zero_add _))<|Zht 11 U (ya U)<|ZHn<|Zxr<|Zre (.t U .n) hS [0] 0 U U U U
def hdS (l:List Sto):Sto:=l.headD sto0
def hdB:List Sto→Bool
 | []=>false
 | _::_=>true
theorem c185 (b:Nat) (l:List Sto):Sp Tryz.prog 185 [pt b] [.hp (bufC b l)] fun K=>K (.returned (.tuple #[.agg (stoE.arr (hdS l)),.bool (hdB l)])) [.hp (bufC b l)]:=by
 cases l with
 | nil=>
  refine Zen Tryz.func185 U U U fun e X Φ hS=>Zsr<|Ze (eal z51) fun b2=>Zw<|Zy U<|Znqs<|Zm U<|Zk (c148 ..) [1] U U ?_
  refine Zq<|Zv (yeq U U)<|Zn<|Zct U<|Zsr<|Zv (yb l51 U)<|Ze (esw 1 (m:=3) U U U U U U U)<|Zw0<|Zy U<|Znl ?_
  refine Zxr<|Zr1<|Zre (.wh 1 (m:=3) U U U (.t U .n)) hS [0] 1 U U U U
 | cons x r=>
  have hl:(x::r).length=r.length+1:=rfl
  refine Zen Tryz.func185 U U U fun e X Φ hS=>Zsr<|Ze (eal z51) fun b2=>Zw<|Zy U<|Znqs<|Zm U<|Zk (c148 ..) [1] U U ?_
  refine Zq<|Zv (yeq U U)<|Zn<|Zcf U<|Zks<|Zm U ?_
  refine Zol 0 buf_op U<|fun Y hY=>?_
  have h1:=hY.first
  refine Zk (c149 b 0 Y h1 (by decide)) [0] U U<|Zq<|Za 2 [0] U U ?_
  have e1:Y.get (Y.first%4)=x:=hY.el 0 (by omega)
  have e2:=buf_part (x:=Y) (i:=Y.first%4) (Nat.mod_lt _ (by decide))
  rw [e1] at e2
  refine Zv (yda 0 (m:=3) U U e2 U)<|Ze (esw 1 (m:=3) U U U U U (Enc.len ..) (Enc.allL ..))<|Zw0<|Zy U<|Znr ?_
  refine Zfx [0] (buf_fold hY) U<|Zre (.wh 1 (m:=3) U U (Enc.len ..) (.t U .n)) hS [0] 1 U U U U
theorem c189 (b:Nat) (l:List Sto):Sp Tryz.prog 189 [pt b] [.hp (bufC b l)] fun K=>K (.returned (.tuple #[.agg (stoE.arr (hdS l)),.bool (hdB l)])) [.hp (bufC b l.tail)]:=by
 cases l with
 | nil=>
  refine Zen Tryz.func189 U U U fun e X Φ hS=>Zsr<|Ze (eal z51) fun b2=>Zw<|Zy U<|Zns<|Zm U<|Zk (c185 ..) [1] U U<|Zq ?_
  refine Zb 3 U<|Ze (eal z51) fun b4=>Zw<|Ze (esw 0 (m:=3) U U U U U (Enc.len ..) (Enc.allL ..))<|Zw0<|Zy U<|Znqs ?_
  refine Zm U<|Zn<|Zcf U<|Zks<|Zv (ydw 0 (m:=3) U U (Enc.len ..))<|Zm U<|Ze (esw 2 (m:=3) U U U U U (Enc.len ..) (Enc.allL ..))<|Zw0 ?_
  refine Zy U<|Znr<|Zre (.wh 2 (m:=3) U U (Enc.len ..) (.t U .n)) hS [1] 2 U U U U
 | cons x r=>
  have hl:(x::r).length=r.length+1:=rfl
  refine Zen Tryz.func189 U U U fun e X Φ hS=>Zsr<|Ze (eal z51) fun b2=>Zw<|Zy U<|Zns<|Zm U<|Zk (c185 ..) [1] U U<|Zq ?_
  refine Zb 3 U<|Ze (eal z51) fun b4=>Zw<|Ze (esw 0 (m:=3) U U U U U (Enc.len ..) (Enc.allL ..))<|Zw0<|Zy U<|Znqs ?_
  refine Zm U<|Zn<|Zct U<|Zsr<|Zm U ?_
  refine Zol 1 buf_op U<|fun Y hY=>?_
  have h1:=hY.first
  refine Zk (c149 b 0 Y h1 (by decide)) [0] U U<|Zq<|Zv (yb l212 U)<|Zv (yn U) ?_
  have e2:=buf_put (x:=Y) (i:=Y.first%4) (s:=sto0) (Nat.mod_lt _ (by decide))
  have hn:=hY.n
  have h4:=hY.most
  have hf:(Y.set (Y.first%4) sto0).first=Y.first:=set_first
  have hm:(Y.set (Y.first%4) sto0).n=Y.n:=set_n
  refine Ze (esc (m:=3) 0 U U U e2 U U (by show _≤14;omega) U)<|Zw0<|Zns<|Za 5 [12,0] U U<|Zv (yadd U U (i64w U (by omega))) ?_
  refine Zv (yrem U U (by decide) U)<|Za 2 [12] U U<|Ze (es 0 U U U U U)<|Zw0<|Zn<|Zrg<|Za 3 [13] U U ?_
  refine Zv (yd 0 U U U)<|Zv (ysub U U (i64w U (by omega)))<|Za 2 [13] U U<|Ze (es 0 U U U U U)<|Zw0<|Zns<|Zv (ydw 1 (m:=3) U U (Enc.len ..))<|Zm U ?_
  refine Ze (esw 2 (m:=3) U U U U U (Enc.len ..) (Enc.allL ..))<|Zw0<|Zy U<|Znr ?_
  have e3:((Y.set (Y.first%4) sto0).n:Int)-1=((Y.n-1:Nat):Int):=by omega
  have e4:(((Y.set (Y.first%4) sto0).first:Int)+1).tmod 4=(((Y.first+1)%4:Nat):Int):=by rw [hf];rfl
  rw [e3,e4]
  refine Zfx [0] (buf_foldc (b:=b) (hY.pop (by omega)) U) U<|Zre (.wh 2 (m:=3) U U (Enc.len ..) (.t U .n)) hS [0] 2 U U U U
theorem c121:Sp Tryz.prog 121 [] [] fun K=>∀ b,K (.returned (pt b)) [.hp (bufC b [])]:=by
 refine Zen Tryz.func121 U U U fun e X Φ hS=>Zsr<|Zy U<|Zns<|Zv (yb l245 U)<|Ze (ebx U) fun b2=>Zw<|Zy U<|Znl ?_
 refine Zxr ?_
 refine Zfx [0] (buf_fold (b:=b2) BufOf.nil) U ?_
 refine Zre (.t U .n) (hS b2) [0] 0 U U U U
theorem c82 (b:Nat) (l:List Sto):Sp Tryz.prog 82 [pt b] [.hp (bufC b l)] fun K=>∀ b',K (.returned (pt b')) [.hp (bufC b' l),.hp (bufC b l)]:=by
 refine Zen Tryz.func82 U U U fun e X Φ hS=>Zoc 0 buf_op U<|fun Y hY=>Zsr<|Zy U<|Znqs<|Zm U<|Zv (ypeq U U U)<|Znl ?_
 refine Znx<|Zcf U<|Zks<|Zb 2 U<|Zv (ydw 0 (m:=14) U U (Enc.len ..))<|Ze (eal z245) fun b3=>Zw<|Ze (esw 0 (m:=14) U U U U U (Enc.len ..) (Enc.allL ..))<|Zw0 ?_
 refine Zns<|Zy U<|Znr ?_
 refine Zfx [1] (buf_fold (b:=b) hY) U ?_
 refine Zfx [1] (buf_fold (b:=b3) hY) U ?_
 refine Zre (.t U .n) (hS b3) [0,0] 0 U U U U
def pushE (l:List Sto) (s:Sto):Int:=if chkS s≠0 then chkS s else if 4≤l.length then 240 else 0
def pushL (l:List Sto) (s:Sto):List Sto:=if pushE l s=0 then l++[s] else l
theorem c249 (b:Nat) (l:List Sto) (s:Sto) (ok:s.Ok):Sp Tryz.prog 249 [pt b,.agg (stoE.arr s)] [.hp (bufC b l)] fun K=>K (.returned (.int .i64 (pushE l s))) [.hp (bufC b (pushL l s))]:=by
 refine Zen Tryz.func249 U U U fun e X Φ hS=>Zoc 0 buf_op U<|fun Y hY=>Zsr<|Ze (ebxE U) fun b3=>Zw<|Zy U<|Znqs<|Zm U<|Zv (ypeq U U U) ?_
 refine Zn<|Zcf U<|Zks<|Zv (ydw 0 (m:=3) U U (Enc.len ..))<|Zv (yb l212 U)<|Ze (eal z212) fun b5=>Zw<|Ze (esw 0 (m:=3) U U U U U U U)<|Zw0 ?_
 refine Znqs<|Zv (ydw 0 (m:=3) U U U) ?_
 refine Zk (c297 s ok) [] U U<|Zq<|Zy U<|Zns<|Zb 2 U<|Zn ?_
 refine Zif U (fun h14=>?_) (fun h14=>?_)
 refine Zsr<|Zb 2 U<|Znr<|Zr1 ?_
 rotate_left
 refine Zkn<|Zsq<|Zsr<|Za 5 [13,2] U U<|Znl ?_
 refine Znx<|Zif U (fun h20=>?_) (fun h20=>?_)
 refine Zsr<|Zy U<|Znr<|Zr1 ?_
 rotate_left
 refine Zkn<|Zsq ?_
 rotate_left
 ·have e1:pushE l s=chkS s:=if_pos h14
  have e2:pushL l s=l:=if_neg (by rw [e1];exact h14)
  rw [e1,e2] at hS
  refine Zfx [2] (buf_fold hY) U<|Zre (.t U .n) hS [0] 2 U U U U
 ·have hn:=hY.n
  have e1:pushE l s=240:=(if_neg h14).trans (if_pos (by omega))
  have e2:pushL l s=l:=if_neg (by rw [e1];decide)
  rw [e1,e2] at hS
  refine Zfx [2] (buf_fold hY) U<|Zre (.t U .n) hS [0] 2 U U U U
 ·have hn:=hY.n
  have h4:=hY.most
  have hf:=hY.first
  have e1:pushE l s=0:=(if_neg h14).trans (if_neg (by omega))
  have e2:pushL l s=l++[s]:=if_pos e1
  rw [e1,e2] at hS
  have hs:s.In:=⟨ok,by simpa using h14⟩
  have e3:=buf_put (x:=Y) (i:=(Y.first+Y.n)%4) (s:=s) (Nat.mod_lt _ (by decide))
  have hg:(Y.set ((Y.first+Y.n)%4) s).n=Y.n:=set_n
  have hi:(Y.set ((Y.first+Y.n)%4) s).first=Y.first:=set_first
  refine Zhf 8 [2] U U<|Zht 0 U (ym U)<|Zht 1 U (ym U)<|Zht 2 U (yn U)<|Zht 3 U (yf 13 U)<|Zht 6 U (ydw 0 (m:=3) U U U)<|ZH1 4<|Zov U (yd 0 U U U) ?_
  refine ZH1 5<|Zok (c149 b Y.n Y hf (by omega)) [0] U U U<|Zqh 1 U<|Zht 7 U (yn U)<|ZHn<|Ztl U ?_
  refine Zte (esc (m:=3) 0 U U U e3 U U (by show _≤14;omega) U)<|Ztw<|Ztn<|Zxs<|Za 4 [13,0] U U<|Zv (yadd U U (i64w U (by omega)))<|Zv (yn U) ?_
  refine Zv (yf 13 U)<|Ze (es 0 U U U U U)<|Zw0<|Zns<|Zy U<|Znr ?_
  rw [hi,hg]
  refine Zfx [0] (buf_foldc (b:=b) (hY.push s hs (by omega)) U) U<|Zre (.t U .n) hS [0] 2 U U U U
theorem take_snc {α:Type} {xs:List α} {j:Nat} {x:α} (h:xs[j]? = some x):xs.take j++[x]=xs.take (j+1):=by
 rw [List.take_add_one,h]
 rfl
theorem rev_at {α:Type} {l:List α} {j:Nat} (d:α) (h:j<l.length):l.reverse[j]? = some (l.getD (l.length-1-j) d):=by
 rw [List.getElem?_reverse h,List.getD_eq_getElem?_getD,List.getElem?_eq_getElem (by omega)]
 rfl
theorem buf_le {b:Nat} {l:List Sto}:Op_ (bufC b l) fun K=>l.length≤4→(∀ s∈l,s.In)→K [.hp (bufC b l)] := .mk fun G k h hh=>by
 obtain ⟨X,h1,h2⟩:=hh
 exact ⟨_,k h1.most h1.al,sep_hp1 ⟨X,h1,h2⟩⟩
theorem q147 (b b1:Nat) (l:List Sto):Sq Tryz.prog 147 [pt b1] [.hp (bufC b l),.blk b1 136 [pt b]] (fun _=>[.hp (bufC b l),.blk b1 136 [pt b]]) (fun s=>[.agg (wE.arr s)]) l.reverse:=by
 refine ⟨fun y J Jx hYd=>?_⟩
 refine Zen Tryz.func147 U U U fun e X Φ hS=>Zoc 1 buf_le U<|fun h4 _=>Zsr<|Zv (yd 2 U U U)<|Zk (c148 ..) [0] U U<|Zq<|Zv (ysub U U (i64w U (by omega)))<|Zy U<|Znb ?_
 refine Zlq (ι:={ i:Nat // i≤l.length }) (fun i=>[(3,.int .i64 ((l.length:Int)-1-(i.1:Int))),(0,.func (.yield y) #[] #[]),(1,pt b1)]) (fun i=>[.hp (J (l.reverse.take i.1)),.hp (bufC b l),.blk b1 136 [pt b]]) (fun i=>l.length-i.1) ⟨0,by omega⟩ ?_ [1,0,0] U fun i=>?_
 rotate_left
 refine Zsq<|Zsr<|Zb 2 U<|Zn<|Zif U (fun h8=>?_) (fun h8=>?_)
 refine Zkn<|Zsq<|Zbl<|Zsr<|Za 3 [2] U U ?_
 rotate_left
 refine Zex<|Zxt<|Zxt<|Zxx<|Zee ?_
 rotate_left
 ·refine ⟨?_,rfl,rfl,trivial⟩
  show some _=some _
  simp
 ·have hlt:i.1<l.length:=by omega
  have e1:(l.length:Int)-1-(i.1:Int)=((l.length-1-i.1:Nat):Int):=by omega
  refine Zol 1 buf_op U<|fun Y hY=>?_
  have hx:l.reverse.take i.1++[l.getD (l.length-1-i.1) sto0] <+: l.reverse:=by rw [take_snc (rev_at sto0 hlt)];exact List.take_prefix _ _
  have e2:=buf_part (x:=Y) (i:=(Y.first+(l.length-1-i.1))%4) (Nat.mod_lt _ (by decide))
  rw [hY.el _ (by omega)] at e2
  rw [e1]
  refine Zk (c149 b (l.length-1-i.1) Y hY.first (by omega)) [0] U U<|Zq<|Zv (yn U) ?_
  refine Zv (yda 0 (m:=3) U U e2 U) ?_
  refine Zyd (hYd _ _ hx) 1 U U U ?_ ?_
  refine Zv (ynot U)<|Zn<|Zcf U<|Zsk<|Zxn<|Znx<|Zrg<|Zm U<|Zv (ysub U U (i64w U (by omega))) ?_
  refine Zy U<|Znl ?_
  rotate_left
  refine Zv (ynot U)<|Zn<|Zct U<|Zrt<|Zr2<|Zr1<|Zr1<|Zr2 ?_
  rotate_left
  ·refine Zfx [1] (buf_fold hY) U ?_
   rw [take_snc (rev_at sto0 hlt),show ((l.length-1-i.1:Nat):Int)-1=(l.length:Int)-1-((i.1+1:Nat):Int) by omega]
   refine Zlr ⟨i.1+1,by omega⟩ (by show l.length-(i.1+1)<l.length-i.1;omega) ⟨U,U,U,trivial⟩ [1,0,0] 0 U U
  ·refine Zfx [1] (buf_fold hY) U ?_
   refine Zre .n (hS.2 _ hx) [1,0,0] 0 U U U U
 ·have hi:=i.2
  rw [List.take_of_length_le (show l.reverse.length≤i.1 by simp;omega)]
  refine Zre .n hS.1 [0,0,0] 0 U U U U
theorem c98 (b:Nat):Sp Tryz.prog 98 [pt b] [] fun K=>∀ b1,K (.returned (.func (.func 147) #[] #[pt b1])) [.blk b1 136 [pt b]]:=by
 refine Zen Tryz.func98 U U U fun e X Φ hS=>Zsr<|Ze (ebx U) fun b1=>Zw<|Zy U<|Zns<|Zv (yfn U U)<|Zy U<|Znl ?_
 refine Zxr ?_
 refine Zre (.t U .n) (hS b1) [0] 0 U U U U
def collC {α:Type} [DecidableEq α] (E:Enc Tryz.prog α) (bo ts:Nat) (pre:List α):HP:=fun h=>∃ A cap,Sep [.blk bo ts [.slice A pre.length cap],.hp (own E A cap pre)] h
theorem coll_op {α:Type} [DecidableEq α] {E:Enc Tryz.prog α} {bo ts:Nat} {pre:List α}:Op_ (collC E bo ts pre) fun K=>∀ A cap,K [.blk bo ts [.slice A pre.length cap],.hp (own E A cap pre)] := .mk fun G k h hh=>by
 obtain ⟨A,cap,hs⟩:=hh
 exact ⟨_,k A cap,hs⟩
theorem coll_fold {α:Type} [DecidableEq α] {E:Enc Tryz.prog α} {bo ts cap n:Nat} {A:Option Addr} {pre:List α} (hn:n=pre.length):∀ h,Sep [.blk bo ts [.slice A n cap],.hp (own E A cap pre)] h→collC E bo ts pre h:=fun h hs=>⟨A,cap,hn ▸ hs⟩
theorem coll_nil {α:Type} [DecidableEq α] {E:Enc Tryz.prog α} {bo ts:Nat}:∀ h,Sep [.blk bo ts [.slice none 0 0]] h→collC E bo ts [] h:=fun h hs=>⟨none,0,hs.mapTl fun _ hs=>sep_nil hs⟩
theorem elSto:ElemI stoE 73 24:=⟨Tryz.underlying73,by
 obtain ⟨i0,hi,hz0,hz1,hz2⟩:=info_parts (show (Tryz.prog.info? 51).map (fun i=>(i.zero,i.size,i.bytes))=some (some (.agg (stoE.arr sto0)),3,24) by kernel_rfl)
 exact ⟨i0,_,hi,hz0,hz1,hz2,by rw [show (Value.agg (stoE.arr sto0)).cells=stoE.arr sto0 from rfl,stoE.size]⟩⟩
def RevAt (l ll:List Sto) (i:Nat):Prop:=∀ k,k<l.length→ll.getD k sto0=if k<i∨l.length-i≤k then l.getD (l.length-1-k) sto0 else l.getD k sto0
theorem RevAt.zero {l:List Sto}:RevAt l l 0:=fun k hk=>by rw [if_neg (by omega)]
theorem getD_set {l:List Sto} {i k:Nat} {x:Sto} (hi:i<l.length):(l.set i x).getD k sto0=if i=k then x else l.getD k sto0:=by
 simp only [List.getD,List.getElem?_set]
 split
 ·rename_i h;subst h;simp [hi]
 ·rfl
theorem rev_step {l ll:List Sto} {i:Nat} (h1:i<l.length) (h2:i<l.length-1-i) (hl:ll.length=l.length) (h:RevAt l ll i):RevAt l ((ll.set i (ll.getD (l.length-1-i) sto0)).set (l.length-1-i) (ll.getD i sto0)) (i+1):=by
 intro k hk
 rw [getD_set (by rw [List.length_set];omega),getD_set (by omega)]
 have hi:=h i h1
 have hj:=h (l.length-1-i) (by omega)
 rw [if_neg (by omega)] at hi
 rw [if_neg (by omega)] at hj
 by_cases e1:l.length-1-i=k
 ·rw [if_pos e1,if_pos (by omega),hi,← e1,show l.length-1-(l.length-1-i)=i by omega]
 ·rw [if_neg e1]
  by_cases e2:i=k
  ·rw [if_pos e2,if_pos (by omega),hj,e2]
  ·rw [if_neg e2,h k hk]
   by_cases e3:k<i∨l.length-i≤k
   ·rw [if_pos e3,if_pos (by omega)]
   ·rw [if_neg e3,if_neg (by omega)]
theorem RevAt.done {l ll:List Sto} {i:Nat} (h:RevAt l ll i) (hl:ll.length=l.length) (hi:l.length≤2*i+1):ll=l.reverse:=by
 refine List.ext_getElem (by simpa using hl) fun k h1 h2=>?_
 have hk:k<l.length:=by omega
 have:=h k hk
 rw [List.getElem_reverse]
 have e1:ll.getD k sto0=ll[k]:=by simp [List.getD,h1]
 have e2:l.getD (l.length-1-k) sto0=l[l.length-1-k]:=by simp [List.getD,show l.length-1-k<l.length by omega]
 rw [← e1,this,← e2]
 by_cases e3:k<i∨l.length-i≤k
 ·rw [if_pos e3]
 ·rw [if_neg e3,show l.length-1-k=k by omega]
theorem c99 (A:Option Addr) (cap:Nat) (l:List Sto) (hl:l.length≤1048576):Sp Tryz.prog 99 [.slice A l.length cap] [.hp (own stoE A cap l)] fun K=>K (.returned (.tuple #[])) [.hp (own stoE A cap l.reverse)]:=by
 refine Zen Tryz.func99 U U U fun e X Φ hS=>Zsr<|Zm U<|Zv (sl_of ⟨_,Tryz.underlying73⟩ U)<|Zv (ysub U U (i64w U (by omega)))<|Zb 2 U<|Znb ?_
 refine Zlq (ι:={ p:Nat × List Sto // p.1≤l.length∧p.2.length=l.length∧RevAt l p.2 p.1 }) (fun p=>[(2,.int .i64 (p.1.1:Int)),(3,.int .i64 ((l.length:Int)-1-(p.1.1:Int))),(0,.slice A l.length cap)]) (fun p=>[.hp (own stoE A cap p.1.2)]) (fun p=>l.length-p.1.1) ⟨(0,l),by simp,rfl,RevAt.zero⟩ ?_ [0] U fun p=>?_
 rotate_left
 refine Zsq<|Zsr<|Zb 3 U<|Zn<|Zif U (fun h9=>?_) (fun h9=>?_)
 refine Zkn<|Zsq<|Zbl ?_
 rotate_left
 refine Zex<|Zxt<|Zxt<|Zxx<|Zee ?_
 rotate_left
 ·refine ⟨rfl,?_,rfl,trivial⟩
  show some _=some _
  simp
 ·obtain ⟨⟨i,ll⟩,h1,h2,h3⟩:=p
  have hi:(i:Int)<(l.length:Int)-1-i:=h9
  have h2':ll.length=l.length:=h2
  have e1:(l.length:Int)-1-(i:Int)=((l.length-1-i:Nat):Int):=by omega
  have hgi:=gE (l:=ll) (k:=i) (by omega)
  have hgj:=gE (l:=ll) (k:=l.length-1-i) (by omega)
  have ei:ll.getD i sto0=ll[i]:=by rw [List.getD_eq_getElem?_getD,hgi];rfl
  have ej:ll.getD (l.length-1-i) sto0=ll[l.length-1-i]:=by rw [List.getD_eq_getElem?_getD,hgj];rfl
  have h4:=rev_step (i:=i) (by omega) (by omega) h2' h3
  rw [ei,ej] at h4
  rw [e1]
  refine Zoc 0 (own_some (by show 0<ll.length;omega)) U<|fun g o hA=>?_
  subst hA
  refine Zhd [0] U U<|Zht 0 U (ym U)<|Zht 1 U (ym U)<|Zht 2 U (ym U)<|Zht 3 U (ym U)<|Zht 4 U (ym U)<|Zht 5 U (ym U)<|Zht 8 U (ym U)<|Zht 9 U (ym U) ?_
  refine Zht 6 U (yeb (s:=3) (j:=l.length-1-i) (o+(l.length-1-i)*3) Tryz.underlying73 U U (by omega) U) ?_
  refine Zht 10 U (yeb (s:=3) (j:=i) (o+i*3) Tryz.underlying73 U U (by omega) U) ?_
  refine ZH2 7 11 (Zov U (yel 0 own.rd U hgj U U U) ?_) (Zov U (yel 0 own.rd U hgi U U U) ?_)
  rotate_left
  rotate_left
  ·refine ZH1 11<|Zov U (yel 0 own.rd U hgi U U U) ?_
   refine Zht 12 U (yeb (s:=3) (j:=i) (o+i*3) Tryz.underlying73 U U (by omega) U) ?_
   refine ZH1 13<|Zoe U (ese 0 i U U U (by show i<ll.length;omega) U U (by kernel_rfl))<|Zwh0 1 U ?_
   refine Zht 14 U (yeb (s:=3) (j:=l.length-1-i) (o+(l.length-1-i)*3) Tryz.underlying73 U U (by omega) U) ?_
   refine ZH1 15<|Zoe U (ese 0 (l.length-1-i) U U U (by show _<(ll.set i _).length;rw [List.length_set];omega) U U (by kernel_rfl))<|Zwh0 1 U<|ZHn<|Zxn<|Znx<|Zrg<|Zm U<|Zv (yadd U U (i64w U (by omega)))<|Zm U<|Zv (ysub U U (i64w U (by omega)))<|Zy U ?_
   refine Zy U<|Znl ?_
   rw [show ((l.length-1-i:Nat):Int)-1=(l.length:Int)-1-((i+1:Nat):Int) by omega]
   refine Zlr ⟨(i+1,(ll.set i ll[l.length-1-i]).set (l.length-1-i) ll[i]),by show i+1≤l.length;omega,by simp [h2'],h4⟩ (by show l.length-(i+1)<l.length-i;omega) ⟨U,U,U,trivial⟩ [0] 0 U U
  ·refine ZH1 7<|Zov U (yel 0 own.rd U hgj U U U) ?_
   refine Zht 12 U (yeb (s:=3) (j:=i) (o+i*3) Tryz.underlying73 U U (by omega) U) ?_
   refine ZH1 13<|Zoe U (ese 0 i U U U (by show i<ll.length;omega) U U (by kernel_rfl))<|Zwh0 1 U ?_
   refine Zht 14 U (yeb (s:=3) (j:=l.length-1-i) (o+(l.length-1-i)*3) Tryz.underlying73 U U (by omega) U) ?_
   refine ZH1 15<|Zoe U (ese 0 (l.length-1-i) U U U (by show _<(ll.set i _).length;rw [List.length_set];omega) U U (by kernel_rfl))<|Zwh0 1 U<|ZHn<|Zxn<|Znx<|Zrg<|Zm U<|Zv (yadd U U (i64w U (by omega)))<|Zm U<|Zv (ysub U U (i64w U (by omega)))<|Zy U ?_
   refine Zy U<|Znl ?_
   rw [show ((l.length-1-i:Nat):Int)-1=(l.length:Int)-1-((i+1:Nat):Int) by omega]
   refine Zlr ⟨(i+1,(ll.set i ll[l.length-1-i]).set (l.length-1-i) ll[i]),by show i+1≤l.length;omega,by simp [h2'],h4⟩ (by show l.length-(i+1)<l.length-i;omega) ⟨U,U,U,trivial⟩ [0] 0 U U
 ·have h5:=p.2.2.2.done p.2.2.1 (by omega)
  rw [h5]
  refine Zre .n hS [0] 0 U U U U
theorem c54 (b:Nat) (l:List Sto):Sp Tryz.prog 54 [pt b] [.hp (bufC b l)] fun K=>∀ A cap,K (.returned (.slice A l.length cap)) [.hp (own stoE A cap l),.hp (bufC b l)]:=by
 refine ZenM Tryz.func54 U U U fun e X Φ hS=>Zoc 0 buf_le U<|fun h4 _=>Zsr<|Zy U<|Zns<|Ze (eal z73) fun b3=>Zw<|Znq ?_
 refine Zsr<|Zm U<|Zk (c98 ..) [] U U<|fun b1=>Zq<|Znb ?_
 refine Zfc [1] (coll_nil (E:=stoE) (bo:=b3) (ts:=73)) U ?_
 refine Zrf (q147 b b1 l) (fun pre=>[.hp (collC stoE b3 73 pre)]) (fun _=>True) (fun _=>[]) (fun _=>False) (fun _ _=>[]) (fun _ _=>False) [2,1,0] U U trivial (fun e' y pre x F hx _=>?_) (fun D _=>?_) (fun _ _ _ h=>h.elim) (fun _ _ _ _ h=>h.elim) (fun _=>U) (by decide)
 refine Zrg<|Ze (eal z212) fun b4=>Zw<|Ze (esw 0 (m:=3) U U U U U (Enc.len ..) (Enc.allL ..))<|Zw0<|Znl<|Zak 2 U fun F'=>Zbl<|Zrg ?_
 rotate_left
 refine Zxn<|Zxs ?_
 rotate_left
 ·refine Zol 1 coll_op U<|fun A cap=>Zv (yd 0 U U U)<|Zv (yf 0 U)<|Zv (ydw 2 (m:=3) U U (Enc.len ..)) ?_
  have hlen:=prefix_len hx
  simp only [List.length_reverse] at hlen
  have hm:pre.length+[x].length≤maxLen:=ml_le (by simp;omega)
  refine Ze (eb1 (E:=stoE) (p:=x) elSto (by decide) U)<|fun B=>Zw ?_
  refine Ze (eap' 2 0 elSto U U U own.rd U U U (fun _ _=>U) (by simp;omega) hm)<|fun A' cap'=>Zw<|Ze (es 1 U U U U U)<|Zw0<|Znl<|Zxn ?_
  refine Zfx [1,1] (coll_fold (bo:=b3) (ts:=73) (pre:=pre++[x]) U) U<|Zrn trivial [0] 2 U U
 ·refine Zol 1 coll_op U<|fun A cap=>Zv (yd 0 U U U) ?_
  refine Zk (c99 A cap l.reverse (by simp;omega)) [1] U U<|Zq<|Zns<|Za 2 [1] U U<|Znr ?_
  refine Zmk 2 U ?_
  rw [List.length_reverse,List.reverse_reverse]
  refine Zre (.t U .n) (hS A cap) [0,1] 2 U U U U
def mskF (w n:Int):Int:=w32 (BitVec.ofInt 32 n &&& BitVec.ofInt 32 (w32 (w32 (1*2 ^ min (8*w).toNat 32)-1))).toNat
def fwd1 (a w:Int) (s:Sto):Option (Int × Int):=
 if a+w≤s.addr∨s.addr+s.width≤a then none
 else if a<s.addr∨s.addr+s.width<a+w then some (0,2)
 else some (if w<4 then mskF w (s.value.fdiv (2 ^ min (8*(a-s.addr)).toNat 32)) else s.value.fdiv (2 ^ min (8*(a-s.addr)).toNat 32),1)
def fwdL (a w:Int):List Sto→Int × Int
 | []=>(0,0)
 | s::r=>match fwd1 a w s with
  | none=>fwdL a w r
  | some p=>p
def fwd (l:List Sto) (a w:Int):Int × Int:=if wOk w=true∧a%w=0 then fwdL a w l.reverse else (0,0)
def FStop (a w:Int) (pre:List Sto) (r:Int × Int):Prop:=∃ p x,pre=p++[x]∧(∀ y∈p,fwd1 a w y=none)∧fwd1 a w x=some r
section
variable {a w:Int} {pre xs:List Sto} {x:Sto} {s:Sto} {r:Int × Int}
theorem fwdL_skip:∀ (p q:List Sto),(∀ y∈p,fwd1 a w y=none)→fwdL a w (p++q)=fwdL a w q
 | [],_,_=>rfl
 | y::p,q,h=>by
  show (match fwd1 a w y with | none=>fwdL a w (p++q) | some p=>p)=_
  rw [h y (by simp)]
  exact fwdL_skip p q fun z hz=>h z (by simp [hz])
theorem FStop.eq (h:FStop a w pre r) (hp:pre <+: xs):fwdL a w xs=r:=by
 obtain ⟨p,x,rfl,h1,h2⟩:=h
 obtain ⟨q,rfl⟩:=hp
 rw [List.append_assoc,fwdL_skip p _ h1]
 show (match fwd1 a w x with | none=>_ | some p=>p)=r
 rw [h2]
theorem fdone (h:∀ y∈xs,fwd1 a w y=none):fwdL a w xs=(0,0):=by
 have:=fwdL_skip (a:=a) (w:=w) xs [] h
 rw [List.append_nil] at this
 exact this
theorem fno_step (h:∀ y∈pre,fwd1 a w y=none) (hx:fwd1 a w x=none):∀ y∈pre++[x],fwd1 a w y=none:=by
 intro y hy
 rw [List.mem_append,List.mem_singleton] at hy
 rcases hy with hy | rfl
 ·exact h y hy
 ·exact hx
theorem fwd1_none (h:a+w≤s.addr∨s.addr+s.width≤a):fwd1 a w s=none:=by unfold fwd1;rw [if_pos h]
theorem fwd1_part (h1:¬ (a+w≤s.addr∨s.addr+s.width≤a)) (h2:a<s.addr∨s.addr+s.width<a+w):fwd1 a w s=some (0,2):=by unfold fwd1;rw [if_neg h1,if_pos h2]
end
theorem Sto.In.w {s:Sto} (h:s.In):wOk s.width=true:=by
 have:=h.spec.1
 simp [wOk]
 omega
theorem mem_pre {α:Type} {l pre:List α} {x:α} (h:pre++[x] <+: l.reverse):x∈l:=by
 obtain ⟨q,hq⟩:=h
 have:x∈l.reverse:=by rw [← hq];simp
 simpa using this
def rcC (b6 b7:Nat) (r:Int × Int):HP:=Sep [.blk b6 40 [.int .u32 r.1],.blk b7 374 [.int .i64 r.2]]
theorem rc_op {b6 b7:Nat} {r:Int × Int}:Op_ (rcC b6 b7 r) fun K=>K [.blk b6 40 [.int .u32 r.1],.blk b7 374 [.int .i64 r.2]] := .mk fun _ k _ hh=>⟨_,k,hh⟩
theorem rc_fold {b6 b7:Nat} (r:Int × Int):∀ h,Sep [.blk b6 40 [.int .u32 r.1],.blk b7 374 [.int .i64 r.2]] h→rcC b6 b7 r h:=fun _ h=>h
theorem fstop {a w:Int} {pre:List Sto} {x:Sto} {r:Int × Int} (hn:∀ y∈pre,fwd1 a w y=none) (h:fwd1 a w x=some r):r=fwdL a w (pre++[x])∧FStop a w (pre++[x]) (fwdL a w (pre++[x])):=by
 have h1:FStop a w (pre++[x]) r:=⟨pre,x,rfl,hn,h⟩
 have h2:=h1.eq (List.prefix_refl _)
 exact ⟨h2.symm,by rw [h2];exact h1⟩
theorem c246 (b:Nat) (l:List Sto) (a w:Int) (ha:U32 a):Sp Tryz.prog 246 [pt b,.int .u32 a,.int .i64 w] [.hp (bufC b l)] fun K=>K (.returned (.tuple #[.int .u32 (fwd l a w).1,.int .i64 (fwd l a w).2])) [.hp (bufC b l)]:=by
 have ha':=ha
 unfold U32 at ha'
 cases hk:wOk w with
 | false=>
  rw [show fwd l a w=(0,0) from if_neg fun h=>by rw [hk] at h;cases h.1]
  refine ZenM Tryz.func246 U U U fun e X Φ hS=>Zsr<|Ze (ebx U) fun b5=>Zw<|Ze (eal z40) fun b6=>Zw<|Ze (eal z374) fun b7=>Zw<|Znqs<|Zv (yd 2 U U U) ?_
  refine Zk (c292 ..) [] U U<|Zq<|Zb 2 U<|Zu' U U (congrArg Bool.not hk) U<|Zu' U U (congrArg Bool.not hk) U<|Zu' U U (congrArg Bool.not hk) U<|Zu' U U (congrArg Bool.not hk) U<|Zu' U U (congrArg Bool.not hk) U<|Zv (ypt' U (congrArg Bool.not hk) U) ?_
  refine Zn<|Zct U<|Zsr<|Ze (es 1 U U U U U)<|Zw0<|Ze (es 0 U U U U U)<|Zw0<|Znr<|Zr1 ?_
  refine Zre (.c 1 U U U (.c 0 U U U .n)) hS [3] 3 U U U U
 | true=>
  have hw:w=1∨w=2∨w=4:=by simp [wOk] at hk;omega
  refine ZenM Tryz.func246 U U U fun e X Φ hS=>Zoc 0 buf_le U<|fun h4 hal=>Zsr<|Ze (ebx U) fun b5=>Zw<|Ze (eal z40) fun b6=>Zw<|Ze (eal z374) fun b7=>Zw<|Znqs<|Zv (yd 2 U U U) ?_
  refine Zk (c292 ..) [] U U<|Zq<|Zb 2 U<|Zg' U U (congrArg Bool.not hk)<|Zm U<|Zg' U U (congrArg Bool.not hk)<|Zv (yd 2 U U U)<|Zg' U U (congrArg Bool.not hk)<|Zv (ycv Tryz.underlying3 Tryz.underlying40 U (u32w U (by omega))) ?_
  refine Zg' U U (congrArg Bool.not hk)<|Zv (yrem U U (by omega) U)<|Zg' U U (congrArg Bool.not hk)<|Zv (yne U U)<|Zv (ypf' U (congrArg Bool.not hk) U)<|Zn<|Zif U (fun h20=>?_) (fun h20=>?_)
  refine Zsr<|Ze (es 1 U U U U U)<|Zw0<|Ze (es 0 U U U U U)<|Zw0<|Znr<|Zr1<|Zre (.c 1 U U U (.c 0 U U U .n)) hS [3] 3 ?_ U U U
  rotate_left
  refine Zks<|Za 2 [2] U U<|Zv (yb l51 U)<|Zv (yb l212 U)<|Ze (eal z212) fun b8=>Zw<|Ze (esw 0 (m:=3) U U U U U U U)<|Zw0<|Znl ?_
  refine Zxq<|Zsr<|Zm U<|Zk (c98 ..) [] U U<|fun b1=>Zq<|Znb ?_
  rotate_left
  ·rw [show fwd l a w=(0,0) from if_neg fun h=>h20 (by rw [Int.tmod_eq_emod_of_nonneg ha.1];exact h.2)]
   rfl
  ·have e1:fwd l a w=fwdL a w l.reverse:=if_pos ⟨hk,by rw [Int.tmod_eq_emod_of_nonneg ha.1] at h20;simpa using h20⟩
   rw [e1] at hS
   refine Zrf (q147 b b1 l) (fun _=>[.blk b6 40 [.int .u32 0],.blk b7 374 [.int .i64 0],.blk b8 212 (wE.cells ⟨a,w,0⟩),.blk b5 3 [.int .i64 w]]) (fun pre=>∀ y∈pre,fwd1 a w y=none) (fun pre=>[.hp (rcC b6 b7 (fwdL a w pre))]) (fun pre=>FStop a w pre (fwdL a w pre)) (fun _ _=>[]) (fun _ _=>False) [5,0,2,1,0,0] U U ?_ (fun e' y pre x F hx hn=>?_) (fun D hn=>?_) (fun D pre hx hp=>?_) (fun D id pre hx hp=>?_) (fun _=>U) (by decide)
   refine fun y=>fun a_1=>?_
   rotate_left
   refine Zrg<|Ze (eal z212) fun b9=>Zw<|Ze (esw 0 (m:=3) U U U U U (Enc.len ..) (Enc.allL ..))<|Zw0<|Znl<|Zak 5 U fun F'=>Zbl<|Zsq<|Zbl<|Zsq<|Zhd [] U U ?_
   refine Zht 0 U (ydw 3 (m:=3) U U (Enc.len ..))<|Zht 2 U (ydw 0 (m:=3) U U (Enc.len ..))<|ZH1 1<|Zok (c293 ..) [] U U U<|Zqh 0 U ?_
   rotate_left
   refine Zxn<|Zxs<|Ze (es 1 U U U U U)<|Zw0<|Ze (es 2 U U U U U)<|Zw0<|Znr<|Zmk 0 U<|Zre (.c 0 U U U (.c 1 U U U .n)) hS [4] 5 ?_ U U U
   rotate_left
   refine Zrt<|Zr2<|Zr1<|Zmk 0 U ?_
   rotate_left
   refine Zex ?_
   rotate_left
   ·exact (by assumption:_∈([]:List Sto)) |> fun h=>by cases h
   ·have hxi:=hal x (mem_pre hx)
    have hxa:=hxi.ad
    have hxw:=hxi.w
    have hxa':=hxa
    have hsp:=hxi.spec.1
    unfold U32 at hxa'
    refine ZH1 3<|Zok (c294 ..) [] U U U<|Zqh 0 U<|Zht 4 U (yle U U)<|Zht 5 U (ym U)<|Zhgs 6 U U U (fun h34=>?_) (fun h34=>?_)
    refine Zhu 6 U U (lkn U (dT h34)) U<|Zhu 7 U U (lkn U (dT h34)) U<|Zhu 8 U U (lkn U (dT h34)) U<|Zhu 9 U U (lkn U (dT h34)) U<|Zhu 10 U U (lkn U (dT h34)) U<|Zht 11 U (ypt' U (dT h34) U)<|Zht 12 U (ya U)<|ZHn<|Znx<|Zct U ?_
    refine Zex<|Zxb U<|Zxt<|Zxx ?_
    rotate_left
    refine Zhg 6 U U (lkn U (dF h34)) (ydw 0 (m:=3) U U (Enc.len ..))<|Zhg 8 U U (lkn U (dF h34)) (ydw 3 (m:=3) U U (Enc.len ..))<|ZH1 7<|Zok (hg:=fun _ fr=>fr.want U U (lkn U (dF h34))) (c293 ..) [] U U U<|Zqh 0 U<|ZH1 9<|Zok (hg:=fun _ fr=>fr.want U U (lkn U (dF h34))) (c294 ..) [] U U U<|Zqh 0 U<|Zhg 10 U U (lkn U (dF h34)) (yle U U)<|Zht 11 U (ypf' U (dF h34) U)<|Zht 12 U (ya U)<|ZHn ?_
    refine Znx<|Zif U (fun h28=>?_) (fun h28=>?_)
    refine Zex<|Zxb U<|Zxt<|Zxx ?_
    rotate_left
    refine Zsq<|Zhd [] U U<|Zht 0 U (ydw 3 (m:=3) U U (Enc.len ..))<|Zht 2 U (ydw 0 (m:=3) U U (Enc.len ..))<|ZH1 1<|Zok (c294 ..) [] U U U<|Zqh 0 U<|ZH1 3<|Zok (c294 ..) [] U U U<|Zqh 0 U<|Zht 4 U (ylt U U)<|Zht 5 U (ym U) ?_
    refine Zhgs 6 U U U (fun h47=>?_) (fun h47=>?_)
    refine Zhu 6 U U (lkn U (dT h47)) U<|Zhu 7 U U (lkn U (dT h47)) U<|Zhu 8 U U (lkn U (dT h47)) U<|Zhu 9 U U (lkn U (dT h47)) U<|Zhu 10 U U (lkn U (dT h47)) U<|Zht 11 U (ypt' U (dT h47) U)<|Zht 12 U (ya U)<|ZHn<|Znx<|Zct U ?_
    refine Zsr<|Ze (es 1 U U U U U)<|Zw0<|Ze (es 2 U U U U U)<|Zw0<|Znr<|Zr2<|Zr1<|Zr2 ?_
    rotate_left
    refine Zhg 6 U U (lkn U (dF h47)) (ydw 0 (m:=3) U U (Enc.len ..))<|Zhg 8 U U (lkn U (dF h47)) (ydw 3 (m:=3) U U (Enc.len ..))<|ZH1 7<|Zok (hg:=fun _ fr=>fr.want U U (lkn U (dF h47))) (c293 ..) [] U U U<|Zqh 0 U<|ZH1 9<|Zok (hg:=fun _ fr=>fr.want U U (lkn U (dF h47))) (c293 ..) [] U U U<|Zqh 0 U<|Zhg 10 U U (lkn U (dF h47)) (ylt U U)<|Zht 11 U (ypf' U (dF h47) U)<|Zht 12 U (ya U)<|ZHn ?_
    refine Znx<|Zif U (fun h41=>?_) (fun h41=>?_)
    refine Zsr<|Ze (es 1 U U U U U)<|Zw0<|Ze (es 2 U U U U U)<|Zw0<|Znr<|Zr2<|Zr1<|Zr2 ?_
    rotate_left
    refine Zsk<|Zxn<|Zxq<|Zhd [] U U<|Zht 0 U (yf 0 U)<|Zht 1 U (yf 2 U)<|Zht 2 U (yd 0 U U U)<|Zht 3 U (ydw 3 (m:=3) U U (Enc.len ..))<|Zht 5 U (ydw 0 (m:=3) U U (Enc.len ..)) ?_
    refine ZH1 4<|Zok (c294 ..) [] U U U<|Zqh 0 U<|ZH1 6<|Zok (c294 ..) [] U U U<|Zqh 0 U<|Zht 7 U (ysub U U (u64w U (by omega)))<|Zht 8 U (ymul U U (u64w U (by omega)))<|Zht 9 U (yshr U U (by omega) U)<|Zht 10 U (ya U)<|ZHn<|Znx ?_
    refine Zsq<|Zsr<|Za 2 [4] U U<|Zn<|Zif U (fun h65=>?_) (fun h65=>?_)
    refine Zrg<|Za 2 [4] U U<|Zv (ymul U U (i64w U (by omega)))<|Zv (yshl U U (by omega) U)<|Zv (ysub U U U)<|Zv (yand U U U)<|Zy U<|Zn ?_
    refine Zsr<|Zm U<|Ze (es 1 U U U U U)<|Zw0<|Ze (es 2 U U U U U)<|Zw0<|Znr<|Zr2 ?_
    rotate_left
    refine Zks<|Zm U<|Ze (es 1 U U U U U)<|Zw0<|Ze (es 2 U U U U U)<|Zw0<|Znr<|Zr2 ?_
    rotate_left
    ·refine Zrn (fno_step hn (fwd1_none (.inl h34))) [1,1,1,1] 1 U U
    ·refine Zrn (fno_step hn (fwd1_none (.inr h28))) [1,1,1,1] 1 U U
    ·obtain ⟨e2,h2⟩:=fstop hn (fwd1_part (fun h=>h.elim h34 h28) (.inl h47))
     refine Zfx [1,1] (rc_fold (b6:=b6) (b7:=b7) (0,2)) U ?_
     rw [e2]
     refine Zrr h2 [0] 3 U U
    ·obtain ⟨e2,h2⟩:=fstop hn (fwd1_part (fun h=>h.elim h34 h28) (.inr h41))
     refine Zfx [1,1] (rc_fold (b6:=b6) (b7:=b7) (0,2)) U ?_
     rw [e2]
     refine Zrr h2 [0] 3 U U
    ·have e3:fwd1 a w x=some (mskF w (x.value.fdiv (2 ^ min (8*(a-x.addr)).toNat 32)),1):=by
      unfold fwd1
      rw [if_neg (fun h=>h.elim h34 h28),if_neg (fun h=>h.elim h47 h41),if_pos h65]
     obtain ⟨e2,h2⟩:=fstop hn e3
     refine Zfx [1,1] (rc_fold (b6:=b6) (b7:=b7) (mskF w (x.value.fdiv (2 ^ min (8*(a-x.addr)).toNat 32)),1)) U ?_
     rw [e2]
     refine Zrr h2 [0] 3 U U
    ·have e3:fwd1 a w x=some (x.value.fdiv (2 ^ min (8*(a-x.addr)).toNat 32),1):=by
      unfold fwd1
      rw [if_neg (fun h=>h.elim h34 h28),if_neg (fun h=>h.elim h47 h41),if_neg h65]
     obtain ⟨e2,h2⟩:=fstop hn e3
     refine Zfx [1,1] (rc_fold (b6:=b6) (b7:=b7) (x.value.fdiv (2 ^ min (8*(a-x.addr)).toNat 32),1)) U ?_
     rw [e2]
     refine Zrr h2 [0] 3 U U
   ·rw [fdone hn]
    rfl
   ·refine Zox 0 rc_op U<|Zre (.c 0 U U U (.c 1 U U U .n)) hS [2] 3 ?_ U U U
    rw [hp.eq hx]
    rfl
   ·exact hp.elim
end Go.Proofs.YtpfijldkkfiooaaGreatDoor
namespace Go.Proofs.YtpfijldkkfiooaaGreatDoor
open Go.RowKit
abbrev B16:={ l:List Int // l.length=16∧∀ a∈l,0≤a∧a<256 }
def b16z:B16:=⟨List.replicate 16 0,by simp,by simp⟩
structure Ln where
 num:Int
 state:Int
 bs:B16
 hn:0≤num∧num<4294967296
def mkL (n s:Int) (b:B16:=b16z) (h:0≤n∧n<4294967296:=by omega):Ln:=⟨n,s,b,h⟩
theorem Ln.ext_iff' (m m':Ln):m=m'↔m.num=m'.num∧m.state=m'.state∧m.bs.1=m'.bs.1:=by
 constructor
 ·rintro rfl;simp
 ·rintro ⟨h1,h2,h3⟩
  cases m;cases m'
  simp only [Ln.mk.injEq]
  exact ⟨h1,h2,Subtype.ext h3⟩
instance:DecidableEq Ln:=fun s t=>decidable_of_iff _ (Ln.ext_iff' s t).symm
def Ln.cells (m:Ln):List Value := .int .u32 m.num :: .int .i64 m.state::m.bs.1.map (Value.int .u8)
theorem sizeU8:(Tryz.prog.info? 5).map (·.size)=some 1:=by kernel_rfl
theorem Ln.len (m:Ln):m.cells.length=18:=by simp [Ln.cells,m.bs.2.1]
theorem Ln.one (m:Ln):∀ v∈m.cells,v.oneCell'=true:=by
 intro v hv
 simp only [Ln.cells,List.mem_cons,List.mem_map] at hv
 rcases hv with rfl | rfl | ⟨a,_,rfl⟩ <;> rfl
def lnE:Enc Tryz.prog Ln where
 T:=145
 n:=18
 cells:=Ln.cells
 len:=Ln.len
 one:=Ln.one
 pos:=by decide
def ln0:Ln:=⟨0,0,b16z,by decide⟩
theorem elLn:ElemI lnE 79 32:=⟨Tryz.underlying79,by
 obtain ⟨i0,hi,hz0,hz1,hz2⟩:=info_parts (show (Tryz.prog.info? 145).map (fun i=>(i.zero,i.size,i.bytes))=some (some (.agg (lnE.arr ln0)),18,32) by kernel_rfl)
 exact ⟨i0,_,hi,hz0,hz1,hz2,by rw [show (Value.agg (lnE.arr ln0)).cells=lnE.arr ln0 from rfl,lnE.size]⟩⟩
structure Msg where
 kind:Int
 src:Int
 dst:Int
 line:Int
 bs:B16
 hn:0≤line∧line<4294967296
def Msg.cells (m:Msg):List Value := .int .i64 m.kind :: .int .i64 m.src :: .int .i64 m.dst :: .int .u32 m.line::m.bs.1.map (Value.int .u8)
theorem Msg.eq_iff (m m':Msg):m=m'↔m.kind=m'.kind∧m.src=m'.src∧m.dst=m'.dst∧m.line=m'.line∧m.bs.1=m'.bs.1:=by
 constructor
 ·rintro rfl;simp
 ·rintro ⟨h1,h2,h3,h4,h5⟩
  cases m;cases m'
  simp only [Msg.mk.injEq]
  exact ⟨h1,h2,h3,h4,Subtype.ext h5⟩
instance:DecidableEq Msg:=fun s t=>decidable_of_iff _ (Msg.eq_iff s t).symm
theorem Msg.len (m:Msg):m.cells.length=20:=by simp [Msg.cells,m.bs.2]
theorem Msg.one (m:Msg):∀ v∈m.cells,v.oneCell'=true:=by
 intro v hv
 simp only [Msg.cells,List.mem_cons,List.mem_map] at hv
 rcases hv with rfl | rfl | rfl | rfl | ⟨a,_,rfl⟩ <;> rfl
def msgE:Enc Tryz.prog Msg where
 T:=117
 n:=20
 cells:=Msg.cells
 len:=Msg.len
 one:=Msg.one
 pos:=by decide
def msg0:Msg:=⟨0,0,0,0,b16z,by decide⟩
def bs0:B16:=b16z
def mkM (k s d l:Int) (b:B16:=b16z) (h:0≤l∧l<4294967296:=by omega):Msg:=⟨k,s,d,l,b,h⟩
def b16c (b:B16):List Value:=b.1.map (Value.int .u8)
def bsE:Enc Tryz.prog B16 where
 T:=115
 n:=16
 cells:=b16c
 len:=fun b=>by simp [b16c,b.2.1]
 one:=fun b v hv=>by
  obtain ⟨a,_,rfl⟩:=List.mem_map.1 hv
  rfl
 pos:=by decide
theorem bsER:bsE.Rec where
 eq:=fun w x y=>by
  have h:=run_equal_arr (P:=Tryz.prog) w Tryz.underlying115 Tryz.underlying5 sizeU8 x.1 y.1 x.2.1 y.2.1
  refine (show _=_ from h).trans ?_
  rw [show decide (x.1=y.1)=decide (x=y) from decide_eq_decide.2 Subtype.ext_iff.symm]
 calm:=by kernel_rfl
theorem elMsg:ElemI msgE 112 48:=⟨Tryz.underlying112,by
 obtain ⟨i0,hi,hz0,hz1,hz2⟩:=info_parts (show (Tryz.prog.info? 117).map (fun i=>(i.zero,i.size,i.bytes))=some (some (.agg (msgE.arr msg0)),20,48) by kernel_rfl)
 exact ⟨i0,_,hi,hz0,hz1,hz2,by rw [show (Value.agg (msgE.arr msg0)).cells=msgE.arr msg0 from rfl,msgE.size]⟩⟩
def isCache (n:Int):Bool:=decide (0≤n) && decide (n≤3)
def homeK (k:Int):Bool:=decide (k=1) || decide (k=2) || decide (k=3) || decide (k=11) || decide (k=12) || decide (k=13)
def cacheK (k:Int):Bool:=decide (k=4) || decide (k=5) || decide (k=6) || decide (k=7) || decide (k=8) || decide (k=9) || decide (k=10)
def bytesK (k:Int):Bool:=decide (k=3) || decide (k=11) || decide (k=8) || decide (k=9) || decide (k=10)
def goodMsg (m:Msg):Bool:=((homeK m.kind && decide (m.dst=4) && isCache m.src) || (cacheK m.kind && decide (m.src=4) && isCache m.dst)) && (bytesK m.kind || decide (m.bs=bs0))
def chk (m:Msg):Int:=if goodMsg m then 0 else 2
theorem home_not (k:Int) (h:homeK k=true):cacheK k=false:=by
 simp [homeK,cacheK] at *
 omega
def isK (k:Int):Bool:=decide (1≤k) && decide (k≤13)
theorem isK_iff (k:Int):isK k=(homeK k || cacheK k):=by
 rw [Bool.eq_iff_iff]
 simp [isK,homeK,cacheK]
 omega
theorem msg_bs' (m:Msg):((msgE.cells m).drop 4).take 16=bsE.cells m.bs:=by
 show (m.cells.drop 4).take 16=b16c m.bs
 unfold Msg.cells b16c
 simp only [List.drop_succ_cons,List.drop_zero]
 exact List.take_of_length_le (by simp [m.bs.2.1])
theorem ln_bs' (m:Ln):((lnE.cells m).drop 2).take 16=bsE.cells m.bs:=by
 show (m.cells.drop 2).take 16=b16c m.bs
 unfold Ln.cells b16c
 simp only [List.drop_succ_cons,List.drop_zero]
 exact List.take_of_length_le (by simp [m.bs.2.1])
section
variable {P:Program} {α:Type} [DecidableEq α] {E:Enc P α} {N:Nat × List Deferred} {T:Tb} {e:World} {L:List Ck} {x y:Operand} {t t' ty:TypeId} {pos:String} {af:Array Edge} {g:Option (Nat × Bool)} {dd:Option Nat}
theorem yneE (R:E.Rec) (p q:α) (hx:evT T x=some (.agg (E.arr p))) (hy:evT T y=some (.agg (E.arr q))) (hT:E.T=t:=by rfl):Yl P N T e L ⟨dd,.binOp .neq t x y t',ty,pos,af,g⟩ (.bool (!decide (p=q))):=fun _ _ fr _=>x_neE R hT rfl (fr.evT hx) (fr.evT hy) rfl
end
def fndI (l:List Ln) (number:Int):Int:=if l.findIdx (fun x=>decide (x.num=number))<l.length then (l.findIdx (fun x=>decide (x.num=number)):Nat) else -1
section
variable {l:List Ln} {number:Int} {i:Nat}
theorem fnd_yes (hi:i<l.length) (h:(l.getD i ln0).num=number) (hall:∀ j,j<i→¬ (l.getD j ln0).num=number):fndI l number=i:=by
 have e:l.findIdx (fun x=>decide (x.num=number))=i:=by
  rw [List.findIdx_eq hi]
  constructor
  ·have:=h
   simp only [List.getD,List.getElem?_eq_getElem hi,Option.getD_some] at this
   simpa using this
  ·intro j hj
   have:=hall j hj
   simp only [List.getD,List.getElem?_eq_getElem (show j<l.length by omega),Option.getD_some] at this
   simpa using this
 unfold fndI
 rw [e,if_pos hi]
theorem fnd_no (hall:∀ j,j<l.length→¬ (l.getD j ln0).num=number):fndI l number = -1:=by
 unfold fndI
 rw [if_neg]
 intro hlt
 have h1:=List.findIdx_getElem (w:=hlt)
 have:=hall _ hlt
 simp only [List.getD,List.getElem?_eq_getElem hlt,Option.getD_some] at this
 simp at h1
 exact this h1
theorem fnd_spec (l:List Ln) (number:Int):(fndI l number = -1∧∀ x∈l,¬ x.num=number)∨∃ i:Nat,fndI l number=i∧i<l.length∧(l.getD i ln0).num=number∧∀ j,j<i→¬ (l.getD j ln0).num=number:=by
 by_cases hlt:l.findIdx (fun x=>decide (x.num=number))<l.length
 ·refine .inr ⟨_,by unfold fndI;rw [if_pos hlt],hlt,?_,fun j hj=>?_⟩
  ·have h1:=List.findIdx_getElem (w:=hlt)
   simpa [List.getD,hlt] using h1
  ·have h1:=List.not_of_lt_findIdx hj
   have hj2:j<l.length:=by omega
   simpa [List.getD,hj2] using h1
 ·refine .inl ⟨by unfold fndI;rw [if_neg hlt],fun x hx hn=>hlt ?_⟩
  exact List.findIdx_lt_length_of_exists ⟨x,hx,by simpa using hn⟩
end
def si (n:Nat) (num:Int):Nat:=(num%(n:Int)).toNat
section
variable {n i:Nat} {num:Int} {L:List Ln} {l:Ln} {ways:Int}
theorem si_lt (hn:0<n):si n num<n:=by
 unfold si
 have h1:=Int.emod_nonneg num (show (n:Int)≠0 by omega)
 have h2:=Int.emod_lt_of_pos num (show (0:Int)<n by omega)
 omega
def inSet (n i:Nat) (x:Ln):Bool:=decide (si n x.num=i)
def ofs (n:Nat) (L:List Ln) (i:Nat):List Ln:=L.filter (inSet n i)
def isNum (num:Int) (x:Ln):Bool:=decide (x.num=num)
def getN (L:List Ln) (num:Int):Option Ln:=L.find? (isNum num)
def Uniq (L:List Ln):Prop:=L.Pairwise fun x y=>¬ x.num=y.num
def okS (l:Ln):Bool:=decide (1≤l.state) && decide (l.state≤3)
def repl (l:Ln):List Ln→List Ln
 | []=>[]
 | x::r=>if x.num=l.num then l::r else x::repl l r
def remf (num:Int):List Ln→List Ln
 | []=>[]
 | x::r=>if x.num=num then r else x::remf num r
def dropL (L:List Ln) (num:Int):List Ln:=L.filter fun x => !isNum num x
def putE (n:Nat) (ways:Int) (L:List Ln) (l:Ln):Int:=if okS l=false then 2 else if getN L l.num=none∧ways≤((ofs n L (si n l.num)).length:Int) then 200 else 0
def putL (n:Nat) (ways:Int) (L:List Ln) (l:Ln):List Ln:=if putE n ways L l=0 then (if getN L l.num=none then L++[l] else repl l L) else L
theorem fnd_none (h:fndI L num = -1∧∀ x∈L,¬ x.num=num):getN L num=none:=by
 unfold getN
 rw [List.find?_eq_none]
 intro x hx
 simp [isNum,h.2 x hx]
theorem get_at:∀ {L:List Ln} {i:Nat},i<L.length→(L.getD i ln0).num=num→(∀ j,j<i→¬ (L.getD j ln0).num=num)→getN L num=some (L.getD i ln0)
 | [],i,hi,_,_=>by simp at hi
 | x::r,0,_,h,_=>by
  have h:x.num=num:=h
  show (x::r).find? _=some x
  simp [List.find?,isNum,h]
 | x::r,i+1,hi,h,hall=>by
  have h0:¬ x.num=num:=hall 0 (by omega)
  show (x::r).find? _=_
  simp only [List.find?,isNum,dF h0]
  have:=get_at (L:=r) (i:=i) (by simpa using hi) h fun j hj=>hall (j+1) (by omega)
  simpa [getN,isNum] using this
theorem set_at:∀ {L:List Ln} {i:Nat},i<L.length→(L.getD i ln0).num=l.num→(∀ j,j<i→¬ (L.getD j ln0).num=l.num)→L.set i l=repl l L
 | [],i,hi,_,_=>by simp at hi
 | x::r,0,_,h,_=>by
  have h:x.num=l.num:=h
  simp [repl,h]
 | x::r,i+1,hi,h,hall=>by
  have h0:¬ x.num=l.num:=hall 0 (by omega)
  simp only [List.set_cons_succ,repl,if_neg h0]
  rw [set_at (L:=r) (i:=i) (by simpa using hi) h fun j hj=>hall (j+1) (by omega)]
theorem rem_at:∀ {L:List Ln} {i:Nat},i<L.length→(L.getD i ln0).num=num→(∀ j,j<i→¬ (L.getD j ln0).num=num)→L.take i++L.drop (i+1)=remf num L
 | [],i,hi,_,_=>by simp at hi
 | x::r,0,_,h,_=>by
  have h:x.num=num:=h
  simp [remf,h]
 | x::r,i+1,hi,h,hall=>by
  have h0:¬ x.num=num:=hall 0 (by omega)
  simp only [List.take_succ_cons,List.drop_succ_cons,remf,if_neg h0,List.cons_append]
  rw [rem_at (L:=r) (i:=i) (by simpa using hi) h fun j hj=>hall (j+1) (by omega)]
theorem rem_no (h:∀ x∈L,¬ x.num=num):L.filter (fun x => !isNum num x)=L:=by
 rw [List.filter_eq_self]
 intro x hx
 simp [isNum,h x hx]
theorem remf_uniq:∀ {L:List Ln},Uniq L→remf num L=dropL L num
 | [],_=>rfl
 | x::r,hu=>by
  have hu':=List.pairwise_cons.1 hu
  by_cases h0:x.num=num
  ·simp only [remf,if_pos h0,dropL,List.filter,isNum,dT h0,Bool.not_true]
   have:=rem_no (num:=num) (L:=r) fun y hy he=>hu'.1 y hy (h0.trans he.symm)
   simpa [isNum] using this.symm
  ·simp only [remf,if_neg h0,dropL,List.filter,isNum,dF h0,Bool.not_false]
   rw [remf_uniq hu'.2]
   rfl
theorem ofs_get (L:List Ln) (num:Int):getN (ofs n L (si n num)) num=getN L num:=by
 unfold getN ofs
 induction L with
 | nil=>rfl
 | cons x r ih=>
  by_cases h0:x.num=num
  ·have:inSet n (si n num) x=true:=by simp [inSet,h0]
   rw [List.filter_cons_of_pos this]
   simp [List.find?,isNum,h0]
  ·by_cases h1:inSet n (si n num) x=true
   ·rw [List.filter_cons_of_pos h1]
    simp only [List.find?,isNum,dF h0]
    simpa [isNum] using ih
   ·rw [List.filter_cons_of_neg h1]
    simp only [List.find?,isNum,dF h0]
    simpa [isNum] using ih
theorem ofs_repl_same (L:List Ln) (l:Ln):ofs n (repl l L) (si n l.num)=repl l (ofs n L (si n l.num)):=by
 unfold ofs
 induction L with
 | nil=>rfl
 | cons x r ih=>
  by_cases h0:x.num=l.num
  ·have h1:inSet n (si n l.num) x=true:=by simp [inSet,h0]
   have h2:inSet n (si n l.num) l=true:=by simp [inSet]
   rw [List.filter_cons_of_pos h1]
   simp only [repl,if_pos h0]
   rw [List.filter_cons_of_pos h2]
  ·simp only [repl,if_neg h0]
   by_cases h1:inSet n (si n l.num) x=true
   ·rw [List.filter_cons_of_pos h1,List.filter_cons_of_pos h1]
    simp only [repl,if_neg h0]
    rw [ih]
   ·rw [List.filter_cons_of_neg h1,List.filter_cons_of_neg h1,ih]
theorem ofs_repl_other (L:List Ln) (l:Ln) (h:¬ i=si n l.num):ofs n (repl l L) i=ofs n L i:=by
 unfold ofs
 induction L with
 | nil=>rfl
 | cons x r ih=>
  by_cases h0:x.num=l.num
  ·have h1:¬ inSet n i x=true:=by simp [inSet,h0];exact fun e=>h e.symm
   have h2:¬ inSet n i l=true:=by simp [inSet];exact fun e=>h e.symm
   rw [List.filter_cons_of_neg h1]
   simp only [repl,if_pos h0]
   rw [List.filter_cons_of_neg h2]
  ·simp only [repl,if_neg h0]
   by_cases h1:inSet n i x=true
   ·rw [List.filter_cons_of_pos h1,List.filter_cons_of_pos h1,ih]
   ·rw [List.filter_cons_of_neg h1,List.filter_cons_of_neg h1,ih]
theorem ofs_snoc_same (L:List Ln) (l:Ln):ofs n (L++[l]) (si n l.num)=ofs n L (si n l.num)++[l]:=by simp [ofs,List.filter_append,List.filter,inSet]
theorem ofs_snoc_other (L:List Ln) (l:Ln) (h:¬ i=si n l.num):ofs n (L++[l]) i=ofs n L i:=by
 have:inSet n i l=false:=by simp [inSet];exact fun e=>h e.symm
 simp [ofs,List.filter_append,List.filter,this]
theorem ofs_drop (L:List Ln) (num:Int):ofs n (dropL L num) i=dropL (ofs n L i) num:=by
 unfold ofs dropL
 rw [List.filter_filter,List.filter_filter]
 congr 1
 funext x
 exact Bool.and_comm _ _
theorem ofs_drop_other (L:List Ln) (num:Int) (h:¬ i=si n num):ofs n (dropL L num) i=ofs n L i:=by
 rw [ofs_drop]
 refine rem_no fun x hx e=>h ?_
 have:=(List.mem_filter.1 hx).2
 simp [inSet,e] at this
 exact this.symm
theorem Uniq.ofs (h:Uniq L) (i:Nat):Uniq (ofs n L i):=List.Pairwise.filter _ h
theorem Uniq.drop (h:Uniq L) (num:Int):Uniq (dropL L num):=List.Pairwise.filter _ h
theorem get_none (h:getN L num=none):∀ x∈L,¬ x.num=num:=fun x hx e=>by
 have:=List.find?_eq_none.1 h x hx
 simp [isNum,e] at this
theorem Uniq.snoc (h:Uniq L) (hn:getN L l.num=none):Uniq (L++[l]):=by
 unfold Uniq
 rw [List.pairwise_append]
 refine ⟨h,by simp,fun x hx y hy=>?_⟩
 rw [List.mem_singleton] at hy
 subst hy
 exact get_none hn x hx
theorem mem_repl:∀ {L:List Ln} {x:Ln},x∈repl l L→(x∈L∨x=l)
 | [],_,h=>by cases h
 | y::r,x,h=>by
  by_cases h0:y.num=l.num
  ·simp only [repl,if_pos h0] at h
   rcases List.mem_cons.1 h with h | h
   ·exact .inr h
   ·exact .inl (by simp [h])
  ·simp only [repl,if_neg h0] at h
   rcases List.mem_cons.1 h with h | h
   ·exact .inl (by simp [h])
   ·rcases mem_repl h with h | h
    ·exact .inl (by simp [h])
    ·exact .inr h
theorem Uniq.repl:∀ {L:List Ln},Uniq L→Uniq (repl l L)
 | [],_=>List.Pairwise.nil
 | x::r,hu=>by
  have hu':=List.pairwise_cons.1 hu
  by_cases h0:x.num=l.num
  ·simp only [Go.Proofs.YtpfijldkkfiooaaGreatDoor.repl,if_pos h0]
   exact List.pairwise_cons.2 ⟨fun y hy e=>hu'.1 y hy (h0.trans e),hu'.2⟩
  ·simp only [Go.Proofs.YtpfijldkkfiooaaGreatDoor.repl,if_neg h0]
   refine List.pairwise_cons.2 ⟨fun y hy e=>?_,Uniq.repl hu'.2⟩
   rcases mem_repl hy with hy | rfl
   ·exact hu'.1 y hy e
   ·exact h0 e
theorem repl_len:∀ (L:List Ln),(repl l L).length=L.length
 | []=>rfl
 | x::r=>by
  unfold repl
  split
  ·rfl
  ·simp [repl_len r]
theorem dropL_le (L:List Ln) (num:Int):(dropL L num).length≤L.length:=List.length_filter_le _ _
theorem Uniq.putL (h:Uniq L):Uniq (putL n ways L l):=by
 unfold Go.Proofs.YtpfijldkkfiooaaGreatDoor.putL
 split
 ·split
  ·exact h.snoc ‹_›
  ·exact h.repl
 ·exact h
def Fits (n:Nat) (ways:Int) (L:List Ln):Prop:=∀ i,i<n→((ofs n L i).length:Int)≤ways
theorem Fits.drop (h:Fits n ways L) (num:Int):Fits n ways (dropL L num):=fun i hi=>by
 have:=h i hi
 rw [ofs_drop]
 have h2:=dropL_le (ofs n L i) num
 omega
theorem Fits.putL (h:Fits n ways L) (l:Ln):Fits n ways (putL n ways L l):=fun i hi=>by
 have h0:=h i hi
 unfold Go.Proofs.YtpfijldkkfiooaaGreatDoor.putL
 split
 ·rename_i he
  split
  ·rename_i hn
   by_cases e:i=si n l.num
   ·subst e
    rw [ofs_snoc_same]
    unfold putE at he
    split at he
    ·omega
    ·split at he
     ·omega
     ·rename_i h2
      simp only [List.length_append,List.length_cons,List.length_nil]
      have:¬ ways≤((ofs n L (si n l.num)).length:Int):=fun h=>h2 ⟨hn,h⟩
      omega
   ·rw [ofs_snoc_other _ _ e];exact h0
  ·by_cases e:i=si n l.num
   ·subst e
    rw [ofs_repl_same,repl_len];exact h0
   ·rw [ofs_repl_other _ _ e];exact h0
 ·exact h0
theorem Fits.nil (h:0≤ways):Fits n ways []:=fun _ _=>by simpa [ofs] using h
def allL (n:Nat) (L:List Ln):List Ln:=(List.range n).flatMap (ofs n L)
theorem filter_len:∀ (m:Nat) (L:List Ln),((List.range m).flatMap fun i=>L.filter (inSet n i)).length=(L.filter fun x=>decide (si n x.num<m)).length
 | 0,L=>by
  have:(L.filter fun x=>decide (si n x.num<0))=[]:=List.filter_eq_nil_iff.2 fun x _=>by simp
  rw [this]
  rfl
 | m+1,L=>by
  rw [List.range_succ,List.flatMap_append,List.length_append,filter_len m L]
  simp only [List.flatMap_cons,List.flatMap_nil,List.append_nil]
  induction L with
  | nil=>rfl
  | cons x r ih=>
   by_cases h1:si n x.num=m
   ·rw [List.filter_cons_of_pos (p:=inSet n m) (by simpa [inSet] using h1),List.filter_cons_of_neg (by simp;omega),List.filter_cons_of_pos (p:=fun x:Ln=>decide (si n x.num<m+1)) (by simp;omega),List.length_cons,List.length_cons]
    omega
   ·rw [List.filter_cons_of_neg (p:=inSet n m) (by simpa [inSet] using h1)]
    by_cases h2:si n x.num<m
    ·rw [List.filter_cons_of_pos (by simpa using h2),List.filter_cons_of_pos (p:=fun x:Ln=>decide (si n x.num<m+1)) (by simp;omega),List.length_cons,List.length_cons]
     omega
    ·rw [List.filter_cons_of_neg (by simpa using h2),List.filter_cons_of_neg (p:=fun x:Ln=>decide (si n x.num<m+1)) (by simp;omega)]
     exact ih
theorem allL_len (hn:0<n) (L:List Ln):(allL n L).length=L.length:=by
 unfold allL
 have e:(ofs n L)=fun i=>L.filter (inSet n i):=rfl
 rw [e,filter_len n L,List.filter_eq_self.2]
 intro x _
 simpa using si_lt hn
end
def pickAt (pick:Int) (n:Nat):Nat:=(Int.tmod (Int.tmod pick n+n) n).toNat
theorem tmod_bd (p:Int) (n:Nat) (h:0<n) : -(n:Int)<Int.tmod p n∧Int.tmod p n<n:=by
 have h1:=Int.tmod_lt_of_pos p (show (0:Int)<n by omega)
 have h2:=Int.lt_tmod_of_pos p (show (0:Int)<n by omega)
 omega
theorem pickAt_eq (p:Int) (n:Nat) (h:0<n):Int.tmod (Int.tmod p n+n) n=((pickAt p n:Nat):Int):=by
 have h1:=tmod_bd p n h
 have h2:0≤Int.tmod (Int.tmod p n+n) n:=Int.tmod_nonneg _ (by omega)
 unfold pickAt
 omega
theorem pickAt_lt (p:Int) (n:Nat) (h:0<n):pickAt p n<n:=by
 have h1:=pickAt_eq p n h
 have h2:=(tmod_bd (Int.tmod p n+n) n h).2
 omega
def vicL (n:Nat) (ways:Int) (L:List Ln) (num pick:Int):Option Ln:=
 if getN L num=none∧ways≤((ofs n L (si n num)).length:Int) then some ((ofs n L (si n num)).getD (pickAt pick (ofs n L (si n num)).length) ln0) else none
def andI (sets:Int):Int:=IntKind.i64.wrap (BitVec.ofInt IntKind.i64.bits sets &&& BitVec.ofInt IntKind.i64.bits (sets-1)).toNat
def pow2 (sets:Int):Bool:=decide (sets=1) || decide (sets=2) || decide (sets=4) || decide (sets=8) || decide (sets=16) || decide (sets=32) || decide (sets=64)
def rightB (sets ways:Int):Bool:=pow2 sets && decide (1≤ways) && decide (ways≤8)
theorem andI_all:∀ k:_root_.Fin 65,1≤k.1→(decide (andI (k.1:Int)=0)=pow2 (k.1:Int)):=by decide +kernel
theorem andI_iff {sets:Int} (h:1≤sets∧sets≤64):(andI sets=0↔pow2 sets=true):=by
 have:=andI_all ⟨sets.toNat,by omega⟩ (show 1≤sets.toNat by omega)
 simp only [] at this
 rw [show ((sets.toNat:Nat):Int)=sets by omega] at this
 rw [← this]
 simp
theorem right_yes {sets ways:Int} (h:rightB sets ways=true):¬ sets<1∧¬ 64<sets∧¬ andI sets≠0∧¬ ways<1∧¬ 8<ways:=by
 unfold rightB at h
 simp only [Bool.and_eq_true,decide_eq_true_eq] at h
 obtain ⟨⟨h1,h2⟩,h3⟩:=h
 have h4:1≤sets∧sets≤64:=by simp [pow2] at h1;omega
 exact ⟨by omega,by omega,fun hn=>hn ((andI_iff h4).2 h1),by omega,by omega⟩
theorem right_no {sets ways:Int} (h:rightB sets ways=false) (h1:¬ sets<1) (h2:¬ 64<sets) (h3:¬ andI sets≠0) (h4:¬ ways<1) (h5:¬ 8<ways):False:=by
 have h6:pow2 sets=true:=(andI_iff (by omega)).1 (Classical.not_not.1 h3)
 simp [rightB,h6] at h
 omega
theorem ofs_le {n i:Nat} (L:List Ln):(ofs n L i).length≤L.length:=List.length_filter_le _ _
theorem right_bd {n:Nat} {ways:Int} (h:rightB ((n:Nat):Int) ways=true):0<n∧n≤64∧1≤ways∧ways≤8:=by
 obtain ⟨h1,h2,_,h4,h5⟩:=right_yes h
 omega
end Go.Proofs.YtpfijldkkfiooaaGreatDoor
namespace Go.Proofs.YtpfijldkkfiooaaGreatDoor
open Go
structure Row where
 A:Option Addr
 cap:Nat
 l:List Ln
def Row.val (r:Row):Value := .slice r.A r.l.length r.cap
def rowC (r:Row):Ck := .hp (own lnE r.A r.cap r.l)
def linesC (b n:Nat) (ways:Int) (L:List Ln):HP:=fun h=>0<n∧n≤64∧∃ (g:Nat) (rs:List Row),rs.length=n∧(∀ j r,rs[j]? = some r→r.l=ofs n L j)∧Sep (.blk b 224 [.slice (some ⟨g,0,none⟩) n n,.int .i64 ways] :: .blk g 79 (rs.map Row.val)::rs.map rowC) h
theorem nth_map {α β:Type} (f:α→β) {l:List α} {i:Nat} {x:α} (h:l[i]? = some x):nth (l.map f) i=some (f x):=by
 rw [nth_eq,List.getElem?_map,h]
 rfl
theorem put_map {α β:Type} (f:α→β) {l:List α} {i:Nat} (y:α) (h:i<l.length):put (l.map f) i (f y)=some ((l.set i y).map f):=by
 rw [put_set _ _ _ (by simpa using h),List.map_set]
def Bk (b n i:Nat) (ways:Int) (L:List Ln) (g:Nat) (cells:List Value) (R:HP):Prop:=∀ L' A' cap' cells',(∀ j,j<n→j≠i→ofs n L' j=ofs n L j)→put cells i (.slice A' (ofs n L' i).length cap')=some cells'→∀ h,Sep [.blk b 224 [.slice (some ⟨g,0,none⟩) n n,.int .i64 ways],.blk g 79 cells',.hp (own lnE A' cap' (ofs n L' i)),.hp R] h→linesC b n ways L' h
theorem lines_op {b n:Nat} {ways:Int} {L:List Ln} (i:Nat) (hi:0<n→i<n):Op_ (linesC b n ways L) fun K=>0<n→n≤64→i<n→∀ g cells A cap R,nth cells i=some (.slice A (ofs n L i).length cap)→cells.length=n→Bk b n i ways L g cells R→K [.blk b 224 [.slice (some ⟨g,0,none⟩) n n,.int .i64 ways],.blk g 79 cells,.hp (own lnE A cap (ofs n L i)),.hp R] := .mk fun G k h hh=>by
 obtain ⟨hn,hn64,g,rs,hl,hr,hs⟩:=hh
 have hi:=hi hn
 have hir:i<rs.length:=by omega
 have hri:rs[i]? = some rs[i]:=gE hir
 have hri':=hr i _ hri
 have h1:=nth_map rowC hri
 obtain ⟨M,hM,_⟩:=Sep.at_ h1 (put_map rowC rs[i] hir)
 have hk:=k hn hn64 hi g (rs.map Row.val) rs[i].A rs[i].cap (Sep M) (by
  have:=nth_map Row.val hri
  rw [this]
  unfold Row.val
  rw [hri']) (by simpa using hl) (by
  intro L' A' cap' cells' ho hp h hs'
  have hp':=put_map Row.val (⟨A',cap',ofs n L' i⟩:Row) hir
  rw [show Row.val ⟨A',cap',ofs n L' i⟩ = .slice A' (ofs n L' i).length cap' from rfl] at hp'
  have:=hp.symm.trans hp'
  cases this
  obtain ⟨M',hM',hback⟩:=Sep.at_ h1 (put_map rowC (⟨A',cap',ofs n L' i⟩:Row) hir)
  have:M'=M:=by
   rw [hM] at hM'
   cases hM'
   rfl
  subst this
  refine ⟨hn,hn64,g,rs.set i ⟨A',cap',ofs n L' i⟩,by simpa using hl,?_,?_⟩
  ·intro j r hj
   by_cases hji:j=i
   ·subst hji
    rw [List.getElem?_set_self hir] at hj
    cases hj
    rfl
   ·rw [List.getElem?_set_ne (Ne.symm hji)] at hj
    have hjn:j<n:=by
     have:=(List.getElem?_eq_some_iff.1 hj).1
     omega
    rw [ho j hjn hji]
    exact hr j r hj
  ·refine hs'.mapTl fun h hs=>hs.mapTl fun h hs=>hback h ?_
   refine hs.mapTl fun h hs=>?_
   have:=Sep.flat hs
   simpa using this)
 refine ⟨_,hk,?_⟩
 refine hs.mapTl fun h hs=>hs.mapTl fun h hs=>?_
 have:=Sep.pick hM hs
 refine Sep.hd (p:=rowC rs[i]) ?_ fun h hh=>?_
 ·refine this.mapTl fun h hs=>?_
  have hs2:Sep (M++[]) h:=by simpa using hs
  exact hs2.unflat
 ·show own lnE rs[i].A rs[i].cap (ofs n L i) h
  rw [← hri']
  exact hh
theorem put_same {α:Type}:∀ {l:List α} {i:Nat} {x:α},nth l i=some x→put l i x=some l
 | [],_,_,h=>by cases h
 | a::l,0,x,h=>by
  cases h
  rfl
 | a::l,i+1,x,h=>by
  have:=put_same (l:=l) (i:=i) (x:=x) h
  unfold Go.Proofs.YtpfijldkkfiooaaGreatDoor.put
  rw [this]
theorem Bk.same {b n i g:Nat} {ways:Int} {L:List Ln} {cells:List Value} {R:HP} {A:Option Addr} {cap:Nat} (h:Bk b n i ways L g cells R) (hc:nth cells i=some (.slice A (ofs n L i).length cap)):∀ h,Sep [.blk b 224 [.slice (some ⟨g,0,none⟩) n n,.int .i64 ways],.blk g 79 cells,.hp (own lnE A cap (ofs n L i)),.hp R] h→linesC b n ways L h:=h L A cap cells (fun _ _ _=>rfl) (put_same hc)
end Go.Proofs.YtpfijldkkfiooaaGreatDoor
namespace Go.Proofs.YtpfijldkkfiooaaGreatDoor
open Go
set_option maxRecDepth 4000
theorem c124 (b n:Nat) (ways:Int) (G:Option Addr) (h0:ways≠0:=by assumption):Sp Tryz.prog 124 [pt b] [.blk b 224 [.slice G n n,.int .i64 ways]] fun K=>K (.returned (.bool false)) [.blk b 224 [.slice G n n,.int .i64 ways]]:=by
 refine Zen Tryz.func124 U U U fun e X Φ hS=>Zsr<|Zy U<|Zns<|Zm U<|Zv (ypeq U U U)<|Zm U<|Zg U U ?_
 refine Za 6 [1,0] U U ?_
 refine Zy U<|Znr<|Zre (.t U .n) hS [0] 0 ?_ U U U
 simp [pk,h0]
theorem c235 (x:Ln) (b3:Nat) (num:Int):Sp Tryz.prog 235 [.agg (lnE.arr x),pt b3] [.blk b3 40 [.int .u32 num]] fun K=>K (.returned (.bool (decide (x.num=num)))) [.blk b3 40 [.int .u32 num]]:=by
 refine Zen Tryz.func235 U U U fun e X Φ hS=>Zsr<|Ze (ebxE U) fun b2=>Zw<|Zy U<|Zns<|Za 3 [0,0,1] U U ?_
 refine Zb 2 U<|Znr<|Zre (.t U .n) hS [1] 1 U U U U
theorem c234 (c:Ck) (A:Option Addr) (cap b3:Nat) (l:List Ln) (num:Int) (hR:Rd lnE c A cap l) (hl:l.length≤1048576):Sp Tryz.prog 234 [.slice A l.length cap,.func (.func 235) #[] #[pt b3]] [c,.blk b3 40 [.int .u32 num]] fun K=>K (.returned (.int .i64 (fndI l num))) [c,.blk b3 40 [.int .u32 num]]:=by
 refine Zen Tryz.func234 U U U fun e X Φ hS=>Zsr<|Zy U<|Znqs<|Zm U<|Zv (sl_of ⟨_,Tryz.underlying79⟩ U)<|Zm U ?_
 refine Znb ?_
 refine Zlq (ι:={ i:Nat // i≤l.length∧∀ j,j<i→¬ (l.getD j ln0).num=num }) (fun i=>[(8,.int .i64 (i.1:Int)),(7,.int .i64 (l.length:Int)),(0,.slice A l.length cap),(1,.func (.func 235) #[] #[pt b3])]) (fun _=>[c,.blk b3 40 [.int .u32 num]]) (fun i=>l.length-i.1) ⟨0,by omega,fun j hj=>by omega⟩ ⟨U,U,U,U,trivial⟩ [0,0] U fun i=>Zsr<|Zv (ylt U U)<|Znq<|Zif U (fun h9=>?_) (fun h9=>?_)
 refine Zkn<|Zsq<|Zbl<|Zsr<|Zb 2 U<|Zns ?_
 refine Zb 3 U<|Zv (yea 0 hR U U U (by first | assumption | omega) U Tryz.underlying79 U)<|Zv (yel 0 hR U (gE (by first | assumption | omega)) U U U)<|Zkv (c235 ..) [1] U U U U<|Zq<|Zn<|Zif U (fun h16=>?_) (fun h16=>?_)
 refine Zsr<|Zb 2 U<|Znr<|Zr2<|Zr1<|Zr1<|Zr2 ?_
 refine Zr1<|Zre (.t U .n) hS [1,0] 0 ?_ U U U
 rotate_left
 refine Zsk<|Zxn<|Znx<|Zrg<|Zv (yadd U U (i64w U (by omega)))<|Zm U<|Znl ?_
 rotate_left
 refine Zex<|Zxt<|Zxt<|Zxx<|Zxs<|Zy U<|Znr ?_
 refine Zre (.t U .n) hS [0,0] 0 ?_ U U U
 rotate_left
 ·have hlt:i.1<l.length:=by omega
  have e1:l.getD i.1 ln0=l[i.1]:=by simp [List.getD,hlt]
  rw [fnd_yes hlt (by rw [e1];exact h16) i.2.2]
  rfl
 ·have hlt:i.1<l.length:=by omega
  have e1:l.getD i.1 ln0=l[i.1]:=by simp [List.getD,hlt]
  refine Zlr ⟨i.1+1,by omega,fun j hj=>?_⟩ (by show l.length-(i.1+1)<l.length-i.1;omega) ⟨U,U,U,U,trivial⟩ [1,0] 0 U U
  by_cases hji:j=i.1
  ·rw [hji,e1];exact h16
  ·exact i.2.2 j (by omega)
 ·have hlt:i.1=l.length:=by have:=i.2.1;omega
  rw [fnd_no fun j hj=>i.2.2 j (by omega)]
  rfl
theorem c202 (b n g cap:Nat) (ways num:Int) (L:List Ln) (cells:List Value) (A:Option Addr) (h0:0<n) (h1:n≤64) (hn:0≤num∧num<4294967296) (hl:(ofs n L (si n num)).length≤1048576) (hc:nth cells (si n num)=some (.slice A (ofs n L (si n num)).length cap)) (hcl:cells.length=n):Sp Tryz.prog 202 [pt b,.int .u32 num] [.blk b 224 [.slice (some ⟨g,0,none⟩) n n,.int .i64 ways],.blk g 79 cells,.hp (own lnE A cap (ofs n L (si n num)))] fun K=>K (.returned (.tuple #[.pointer (some ⟨g,si n num,none⟩),.int .i64 (fndI (ofs n L (si n num)) num)])) [.blk b 224 [.slice (some ⟨g,0,none⟩) n n,.int .i64 ways],.blk g 79 cells,.hp (own lnE A cap (ofs n L (si n num)))]:=by
 have hi:si n num<n:=si_lt h0
 have he:num.tmod (n:Int)=((si n num:Nat):Int):=by
  unfold si
  rw [Int.tmod_eq_emod_of_nonneg hn.1]
  have:=Int.emod_nonneg num (show (n:Int)≠0 by omega)
  omega
 refine Zen Tryz.func202 U U U fun e X Φ hS=>Zsr<|Ze (ebx U) fun b3=>Zw<|Zb 2 U<|Znq<|Zhd [] U U<|Zht 0 U (ym U) ?_
 refine Zht 1 U (yn U)<|Zht 2 U (yf 0 U)<|Zht 3 U (yd 1 U U U)<|Zht 4 U (yd 0 U U U)<|Zht 5 U (ym U)<|Zht 6 U (yn U)<|Zht 7 U (yf 0 U)<|Zht 8 U (yd 1 U U U)<|Zht 9 U (sl_of ⟨_,Tryz.underlying222⟩ U)<|Zht 10 U (ycv Tryz.underlying3 Tryz.underlying40 U (u32w U (by omega))) ?_
 refine Zht 11 U (yrem U U (by omega) U) ?_
 rw [he]
 refine Zht 12 U (yeb (s:=1) (si n num) Tryz.underlying222 U U hi (by omega))<|Zht 13 U (ya U)<|ZHn<|Zxs<|Zb 2 U ?_
 refine Zv (yd 2 U U hc)<|Zv (yfn U U) ?_
 refine Zk (c234 _ A cap b3 (ofs n L (si n num)) num own.rd hl) [3,0] U U<|Zq<|Zy U<|Znr<|Zre (.t U (.t U .n)) hS [2,2,0] 1 U U U U
theorem c146 (b n:Nat) (ways num:Int) (L:List Ln) (hw:ways≠0) (hn:0≤num∧num<4294967296) (hl:L.length≤1048576):Sp Tryz.prog 146 [pt b,.int .u32 num] [.hp (linesC b n ways L)] fun K=>(∀ x,getN L num=some x→K (.returned (.tuple #[.agg (lnE.arr x),.bool true])) [.hp (linesC b n ways L)])∧(getN L num=none→K (.returned (.tuple #[.agg (lnE.arr ln0),.bool false])) [.hp (linesC b n ways L)]):=by
 refine Zen Tryz.func146 U U U fun e X Φ hS=>Zoc 0 (lines_op (si n num) si_lt) U<|fun h0 h64 hi g cells A cap R hc hcl hB=>Zsr<|Ze (eal z145) fun b4=>Zw<|Zy U<|Znqs<|Zm U<|Zk (c124 ..) [1] U U ?_
 refine Zq<|Zn<|Zcf U<|Zks<|Zb 2 U ?_
 have hlo:(ofs n L (si n num)).length≤1048576:=Nat.le_trans (List.length_filter_le _ _) hl
 have hg:=ofs_get (n:=n) L num
 rcases fnd_spec (ofs n L (si n num)) num with ⟨hf,hall⟩ | ⟨k,hf,hk,hx,hall⟩
 ·have h2:=(hg.symm.trans (fnd_none ⟨hf,hall⟩))
  refine Zk (c202 b n g cap ways num L cells A h0 h64 hn hlo hc hcl) [0,1,1] U U<|Zq<|Zb 5 U<|Znq ?_
  refine Zsr<|Zb 2 U<|Zn<|Zct' U (dT (by omega))<|Zrt<|Zr1 ?_
  refine Zfx [0,0,0,1] (hB.same hc) U ?_
  refine Zre (.wh 1 (m:=18) U U U (.t U .n)) (hS.2 h2) [0] 1 U U U U
 ·have h2:=hg.symm.trans (get_at hk hx hall)
  refine Zk (c202 b n g cap ways num L cells A h0 h64 hn hlo hc hcl) [0,1,1] U U<|Zq<|Zb 5 U<|Znq ?_
  refine Zsr<|Zb 2 U<|Zn<|Zcf' U (dF (by omega))<|Zks<|Zm U ?_
  refine Zv (yn U) ?_
  rw [hf]
  have e1:(ofs n L (si n num)).getD k ln0=(ofs n L (si n num))[k]:=by simp [List.getD,hk]
  rw [e1] at h2
  refine Zv (yd 1 U U hc)<|Zm U<|Zv (yea 2 own.rd U U U (by first | assumption | omega) U Tryz.underlying79 U)<|Zv (yel 2 own.rd U (gE (by first | assumption | omega)) U U U)<|Ze (esw 3 (m:=18) U U U U U (Enc.len ..) (Enc.allL ..))<|Zw0<|Zy U<|Znr ?_
  refine Zfx [0,0,0,1] (hB.same hc) U ?_
  refine Zre (.wh 1 (m:=18) U U (Enc.len ..) (.t U .n)) (hS.1 _ h2) [0] 1 U U U U
theorem c223 (b n:Nat) (ways:Int) (L:List Ln) (l:Ln) (hw:ways≠0) (hl:L.length≤1000000):Sp Tryz.prog 223 [pt b,.agg (lnE.arr l)] [.hp (linesC b n ways L)] fun K=>K (.returned (.int .i64 (putE n ways L l))) [.hp (linesC b n ways (putL n ways L l))]:=by
 refine Zen Tryz.func223 U U U fun e X Φ hS=>Zoc 0 (lines_op (si n l.num) si_lt) U<|fun h0 h64 hi g cells A cap R hc hcl hB=>Zsr<|Ze (ebxE U) fun b3=>Zw<|Zy U<|Znqs<|Zm U<|Zk (c124 ..) [1] U U ?_
 refine Zq<|Zn<|Zcf U<|Zkn<|Zsq<|Zsr<|Za 2 [1,1] U U ?_
 refine Zb 2 U<|Zgs U U (fun h12=>?_) (fun h12=>?_)
 refine Zu' U U (dT h12) U<|Zu' U U (dT h12) U<|Zu' U U (dT h12) U<|Zv (ypt' U (dT h12) U)<|Zn<|Zct U<|Zsr<|Zy U<|Znl ?_
 refine Zxr<|Zr1 ?_
 rotate_left
 refine Zg' U U (dF h12)<|Zv (yf 1 U)<|Zg' U U (dF h12)<|Zv (yd 1 U U U)<|Zg' U U (dF h12)<|Zv (ygt U U)<|Zv (ypf' U (dF h12) U)<|Zn<|Zif U (fun h16=>?_) (fun h16=>?_)
 refine Zsr<|Zy U<|Znr<|Zr1 ?_
 rotate_left
 refine Zks<|Za 3 [0,1] U U ?_
 rotate_left
 ·have he:putE n ways L l=2:=if_pos (by simp [okS];omega)
  have hp:putL n ways L l=L:=if_neg (by rw [he];decide)
  rw [he,hp] at hS
  refine Zfx [0,1,1,1] (hB.same hc) U<|Zre (.t U .n) hS [0] 1 U U U U
 ·have he:putE n ways L l=2:=if_pos (by simp [okS];omega)
  have hp:putL n ways L l=L:=if_neg (by rw [he];decide)
  rw [he,hp] at hS
  refine Zfx [0,1,1,1] (hB.same hc) U<|Zre (.t U .n) hS [0] 1 U U U U
 ·have hn:=l.hn
  have hok:okS l=true:=by simp [okS];omega
  have hlo:(ofs n L (si n l.num)).length≤1048576:=Nat.le_trans (ofs_le L) (by omega)
  have hg:=ofs_get (n:=n) L l.num
  rcases fnd_spec (ofs n L (si n l.num)) l.num with ⟨hf,hall⟩ | ⟨k,hf,hk,hx,hall⟩
  ·have h2:=(hg.symm.trans (fnd_none ⟨hf,hall⟩))
   refine Zk (c202 b n g cap ways l.num L cells A h0 h64 hn hlo hc hcl) [0,1,1] U U<|Zq<|Zb 5 U<|Znq ?_
   refine Zbl<|Zsr<|Zb 3 U<|Zn<|Zcf' U (dF (by omega))<|Zsq<|Zhd [] U U ?_
   refine Zht 0 U (ym U)<|Zht 1 U (yn U)<|Zht 2 U (yd 1 U U hc)<|Zht 3 U (sl_of ⟨_,Tryz.underlying79⟩ U)<|Zht 4 U (ym U)<|Zht 5 U (yn U)<|Zht 6 U (yf 1 U)<|Zht 7 U (yd 0 U U U)<|Zht 8 U (yge U U)<|Zht 9 U (ya U) ?_
   refine ZHn<|Znx<|Zif U (fun h41=>?_) (fun h41=>?_)
   refine Zsr<|Zy U<|Znr<|Zr2<|Zr1 ?_
   rotate_left
   rotate_left
   ·have he:putE n ways L l=200:=by unfold putE;rw [hok,h2,if_neg (by simp),if_pos ⟨rfl,h41⟩]
    have hp:putL n ways L l=L:=if_neg (by rw [he];decide)
    rw [he,hp] at hS
    refine Zfx [0,0,0,1] (hB.same hc) U<|Zre (.t U .n) hS [0] 1 U U U U
   ·have he:putE n ways L l=0:=by unfold putE;rw [hok,h2,if_neg (by simp),if_neg fun h=>h41 h.2]
    have hp:putL n ways L l=L++[l]:=by unfold putL;rw [if_pos he,if_pos h2]
    rw [he,hp] at hS
    refine Zhf 7 [2] U U<|Zht 0 U (ym U)<|Zht 1 U (ym U)<|Zht 2 U (yn U)<|Zht 3 U (yd 1 U U hc)<|Zht 4 U (ydw 2 (m:=18) U U (Enc.len ..)) ?_
    refine ZH1 5<|Zoe U (eb1 elLn (by decide) U)<|fun B=>Zwh 2 U ?_
    have hm:(ofs n L (si n l.num)).length+[l].length≤maxLen:=by
     show (ofs n L (si n l.num)).length+1≤maxLen
     exact Nat.le_trans (Nat.succ_le_succ hlo) (by decide)
    refine ZH1 6<|Zoe U (eap' 1 0 elLn U U U own.rd U U U (fun _ _=>U) (by simp;omega) hm)<|fun A' cap'=>Zwh 2 U<|ZHn<|Ztl U<|Ztv (yn U) ?_
    obtain ⟨cells',hput⟩:∃ cells',put cells (si n l.num) (.slice A' (ofs n L (si n l.num)++[l]).length cap')=some cells':=⟨_,put_set _ _ _ (by omega)⟩
    refine Zte (es 3 U U U hput U)<|Ztw<|Ztn<|Zxn<|Zxs<|Zy U<|Znr ?_
    rw [← ofs_snoc_same] at hput ⊢
    refine Zfx [2,2,1,2] (hB (L++[l]) A' cap' cells' (fun j _ hne=>ofs_snoc_other L l hne) hput) U<|Zre (.t U .n) hS [0] 2 U U U U
  ·have h2:=hg.symm.trans (get_at hk hx hall)
   have he:putE n ways L l=0:=by unfold putE;rw [hok,h2];simp
   have hp:putL n ways L l=repl l L:=by unfold putL;rw [he,h2];simp
   have hs:=set_at (l:=l) hk hx hall
   rw [he,hp] at hS
   refine Zk (c202 b n g cap ways l.num L cells A h0 h64 hn hlo hc hcl) [0,1,1] U U<|Zq<|Zb 5 U<|Znq ?_
   refine Zbl<|Zsr<|Zb 3 U<|Zn<|Zct' U (dT (by omega))<|Zhe 6 U<|Zht 0 U (ym U) ?_
   refine Zht 1 U (yn U)<|Zht 2 U (yd 1 U U hc)<|Zht 3 U (ym U)<|Zht 4 U (ydw 3 (m:=18) U U (Enc.len ..)) ?_
   rw [hf]
   refine Zht 5 U (yea 2 own.rd U U U (by first | assumption | omega) U Tryz.underlying79 U)<|ZHn<|Ztl U<|Zte (ese 2 _ U U U (by first | assumption | omega) U U (by kernel_rfl))<|Ztw<|Ztn<|Zxn<|Zxs<|Zy U<|Znl ?_
   refine Zxr ?_
   rw [hs,← ofs_repl_same]
   have hlen:(ofs n (repl l L) (si n l.num)).length=(ofs n L (si n l.num)).length:=by rw [ofs_repl_same,repl_len]
   refine Zfx [0,0,0,1] (hB (repl l L) A cap cells (fun j _ hne=>ofs_repl_other L l hne) (by rw [hlen];exact put_same hc)) U<|Zre (.t U .n) hS [0] 1 U U U U
def imgC (b:Nat) (l:List Int):HP:=fun h=>0<l.length∧∃ g o cap,Sep [.blk b 149 [.slice (some ⟨g,o,none⟩) l.length cap],.hp (own u8E (some ⟨g,o,none⟩) cap l)] h
theorem img_op {b:Nat} {l:List Int}:Op_ (imgC b l) fun K=>0<l.length→∀ g o cap,l.length≤cap→K [.blk b 149 [.slice (some ⟨g,o,none⟩) l.length cap],.hp (own u8E (some ⟨g,o,none⟩) cap l)] := .mk fun G k h hh=>by
 obtain ⟨h0,g,o,cap,hs⟩:=hh
 refine ⟨_,k h0 g o cap ?_,hs⟩
 obtain ⟨_,h2,_,e2,_,_,h3,_,_,_,_,hp,_⟩:=hs
 exact hp.1
theorem img_fold {b g o cap:Nat} {l:List Int} (h0:0<l.length):∀ h,Sep [.blk b 149 [.slice (some ⟨g,o,none⟩) l.length cap],.hp (own u8E (some ⟨g,o,none⟩) cap l)] h→imgC b l h:=fun _ hs=>⟨h0,g,o,cap,hs⟩
theorem img_foldn {b g o cap n:Nat} {l:List Int} (h0:0<l.length) (hn:n=l.length):∀ h,Sep [.blk b 149 [.slice (some ⟨g,o,none⟩) n cap],.hp (own u8E (some ⟨g,o,none⟩) cap l)] h→imgC b l h:=fun _ hs=>⟨h0,g,o,cap,hn ▸ hs⟩
theorem c57 (b:Nat) (l:List Int):Sp Tryz.prog 57 [pt b] [.hp (imgC b l)] fun K=>K (.returned (.bool false)) [.hp (imgC b l)]:=by
 refine Zen Tryz.func57 U U U fun e X Φ hS=>Zsr<|Zy U<|Zns<|Zm U<|Zv (ypeq U U U)<|Zm U<|Zg U U ?_
 refine Za 3 [0] U U<|Zg U U ?_
 refine Zol 0 img_op U<|fun h0 g o cap hcp=>Zv (yd 0 U U U)<|Zg U U<|Zv (ysleq ⟨_,Tryz.underlying23⟩ U U)<|Zb 2 U<|Znr ?_
 refine Zfx [0,0] (img_fold h0) U<|Zre (.t U .n) hS [0] 0 U U U U
theorem c58 (c:Ck) (g o cap:Nat) (l:List Int) (hR:Rd u8E c (some ⟨g,o,none⟩) cap l) (h0:0<l.length) (hl:l.length≤1048576):Sp Tryz.prog 58 [.slice (some ⟨g,o,none⟩) l.length cap] [c] fun K=>∀ g' o' cap',K (.returned (.slice (some ⟨g',o',none⟩) l.length cap')) [.hp (own u8E (some ⟨g',o',none⟩) cap' l),c]:=by
 refine Zen Tryz.func58 U U U fun e X Φ hS=>Zsr<|Zy U<|Znqs<|Zm U<|Zv (ysleq ⟨_,Tryz.underlying23⟩ U U)<|Znl ?_
 refine Znx<|Zcf U<|Zks ?_
 refine Ze (eb0 elU8)<|fun A=>Zw<|Zm U ?_
 have hm:([]:List Int).length+l.length≤maxLen:=ml_le (by simp;omega)
 refine Ze (eap' 0 1 elU8 U U U hR U U U (fun _ _=>U) (by simp;omega) hm)<|fun A' cap'=>Zw<|Zy U<|Znr ?_
 refine Zox 0 (own_some h0) U<|fun g' o' e1=>?_
 subst e1
 refine Zre (.t U .n) (hS g' o' cap') [0,0] 0 U U U U
theorem c21 (b:Nat) (l:List Int) (hl:l.length≤1048576:=by assumption):Sp Tryz.prog 21 [pt b] [.hp (imgC b l)] fun K=>∀ g' o' cap',K (.returned (.slice (some ⟨g',o',none⟩) l.length cap')) [.hp (imgC b l),.hp (own u8E (some ⟨g',o',none⟩) cap' l)]:=by
 refine Zen Tryz.func21 U U U fun e X Φ hS=>Zsr<|Zy U<|Znqs<|Zm U<|Zk (c57 ..) [0] U U<|Zq ?_
 refine Zn<|Zcf U<|Zks<|Za 3 [0] U U ?_
 refine Zol 0 img_op U<|fun h0 g o cap hcp=>Zv (yd 0 U U U) ?_
 refine Zk (c58 _ g o cap l own.rd h0 hl) [1] U U<|fun g'=>fun o'=>fun cap'=>Zq<|Zy U<|Znr ?_
 refine Zfx [2,1] (img_fold h0) U ?_
 refine Zre (.t U .n) (hS g' o' cap') [0,0] 0 U U U U
theorem c74 (b:Nat) (l:List Int):Sp Tryz.prog 74 [pt b] [.hp (imgC b l)] fun K=>K (.returned (.int .i64 (l.length:Int))) [.hp (imgC b l)]:=by
 refine Zen Tryz.func74 U U U fun e X Φ hS=>Zsr<|Zy U<|Znqs<|Zm U<|Zv (ypeq U U U)<|Znl ?_
 refine Znx<|Zcf U<|Zks<|Za 3 [0] U U ?_
 refine Zol 0 img_op U<|fun h0 g o cap hcp=>Zv (yd 0 U U U)<|Zv (sl_of ⟨_,Tryz.underlying23⟩ U)<|Zy U<|Znr ?_
 refine Zfx [0,0] (img_fold h0) U<|Zre (.t U .n) hS [0] 0 U U U U
theorem c63 (b:Nat) (l:List Int) (h0:0<l.length:=by assumption) (hl:l.length≤1048576:=by assumption):Sp Tryz.prog 63 [pt b] [.hp (imgC b l)] fun K=>∀ b',K (.returned (pt b')) [.hp (imgC b l),.hp (imgC b' l)]:=by
 refine Zen Tryz.func63 U U U fun e X Φ hS=>Zsr<|Zy U<|Znqs<|Zm U<|Zk (c57 ..) [0] U U<|Zq ?_
 refine Zn<|Zcf U<|Zks<|Zm U<|Zk (c21 ..) [0] U U<|fun g'=>fun o'=>?_
 refine fun cap'=>Zq <| Zv (yb l149 rfl) <| Ze (ebx rfl) fun b8=>Zw <| Zv (ya rfl) <| Znl <| Znx <| Zrt ?_
 refine Zfx [0,1] (img_fold (b:=b8) h0) U ?_
 refine Zre (.t U .n) (hS b8) [1,0] 0 U U U U
def szF (n:Int):Bool:=decide (n<16) || decide (n > 4096) || decide (IntKind.i64.wrap (BitVec.ofInt 64 n &&& BitVec.ofInt 64 (n-1)).toNat≠0)
theorem c70 (n:Nat):Sp Tryz.prog 70 [.int .i64 (n:Int)] [] fun K=>(szF n=true→K (.returned (.tuple #[.pointer none,.int .i64 2])) [])∧(szF n=false→∀ b,K (.returned (.tuple #[pt b,.int .i64 0])) [.hp (imgC b (List.replicate n 0))]):=by
 refine Zen Tryz.func70 U U U fun e X Φ hS=>Zsr<|Zb 2 U<|Znqs<|Zb 2 U ?_
 refine Zm U<|Zgs U U (fun h6=>?_) (fun h6=>?_)
 refine Zu' U U (dT h6) U<|Zu' U U (dT h6) U<|Zv (ypt' U (dT h6) U)<|Zb 7 U ?_
 refine Zn<|Zct U<|Zsr<|Zb 2 U<|Znr<|Zr1 ?_
 rotate_left
 refine Zg' U U (dF h6)<|Zm U<|Zg' U U (dF h6)<|Zv (ygt U U)<|Zv (ypf' U (dF h6) U)<|Zm U<|Zgs U U (fun h10=>?_) (fun h10=>?_)
 refine Zu' U U (dT h10) U<|Zu' U U (dT h10) U<|Zu' U U (dT h10) U<|Zu' U U (dT h10) U<|Zu' U U (dT h10) U<|Zv (ypt' U (dT h10) U)<|Zn<|Zct U<|Zsr ?_
 refine Zb 2 U<|Znr<|Zr1 ?_
 rotate_left
 refine Zg' U U (dF h10)<|Zm U<|Zg' U U (dF h10)<|Zm U<|Zg' U U (dF h10)<|Zv (ysub U U (i64w U (by omega)))<|Zg' U U (dF h10)<|Zv (yand U U U)<|Zg' U U (dF h10)<|Zv (yne U U) ?_
 refine Zv (ypf' U (dF h10) U)<|Zn<|Zif U (fun h16=>?_) (fun h16=>?_)
 refine Zsr<|Zb 2 U<|Znr<|Zr1 ?_
 rotate_left
 refine Zks<|Zm U ?_
 rotate_left
 ·refine Zre (.t U (.t U .n)) (hS.1 (by simp [szF,h6])) [] 0 U U U U
 ·refine Zre (.t U (.t U .n)) (hS.1 (by simp [szF,h10])) [] 0 U U U U
 ·have hz:szF n=true:=by
   unfold szF
   rw [dT (show IntKind.i64.wrap (BitVec.ofInt 64 (n:Int) &&& BitVec.ofInt 64 ((n:Int)-1)).toNat≠0 from h16),Bool.or_true]
  refine Zre (.t U (.t U .n)) (hS.1 hz) [] 0 U U U U
 ·have hz:szF n=false:=by
   unfold szF
   rw [dF h6,dF h10]
   exact dF h16
  refine Ze (emks elU8 U U (by omega) (ml_le (by omega)))<|fun A=>Zw<|Zv (yb l149 U)<|Ze (ebx U) fun b20=>Zw<|Zb 2 U<|Znr ?_
  have h0:0<(List.replicate n (0:Int)).length:=by simp;omega
  refine Zox 1 (own_some h0) U<|fun g' o' e1=>?_
  subst e1
  refine Zfx [1,0] (img_foldn (b:=b20) h0 (by simp)) U ?_
  refine Zre (.t U (.t U .n)) (hS.2 hz b20) [0] 0 U U U U
theorem c31 (c:Ck) (A:Option Addr) (cap:Nat) (l:List Int) (hR:Rd u8E c A cap l):Sp Tryz.prog 31 [.slice A l.length cap] [c] fun K=>(szF l.length=true→K (.returned (.tuple #[.pointer none,.int .i64 2])) [c])∧(szF l.length=false→∀ b,K (.returned (.tuple #[pt b,.int .i64 0])) [.hp (imgC b l),c]):=by
 refine Zen Tryz.func31 U U U fun e X Φ hS=>Zsr<|Zb 2 U<|Zns<|Zm U<|Zv (sl_of ⟨_,Tryz.underlying23⟩ U)<|Zk (c70 ..) [] U U ?_
 refine ⟨?_,?_⟩
 refine fun a=>Zq <| Zv (ym rfl) <| Zv (yx rfl rfl) <| Zv (yx rfl rfl) <| Zv (ya rfl) <| Zv (ya rfl) <| Znl <| Znx <| Zsq ?_
 refine Zsr<|Zb 2 U<|Zn<|Zct U<|Zsr<|Zb 3 U ?_
 refine Znr<|Zr1 ?_
 rotate_left
 refine fun a=>fun b=>Zq <| Zv (ym rfl) <| Zv (yx rfl rfl) <| Zv (yx rfl rfl) <| Zv (ya rfl) <| Zv (ya rfl) <| Znl <| Znx ?_
 refine Zsq<|Zsr<|Zb 2 U<|Zn<|Zcf U<|Zks ?_
 refine Za 3 [0] U U ?_
 rotate_left
 ·refine Zre (.t U (.t U .n)) (hS.1 a) [0] 0 U U U U
 ·refine Zol 0 img_op U<|fun h0 g o cap' hcp=>Zv (yd 0 U U U)<|Zm U ?_
  have hl:0<l.length:=by simpa using h0
  refine Ze (ecp' 1 2 0 (l2:=l) (by simp) Tryz.underlying23 U U U hR U U (by simp) U hl (by simp) (fun _ _ h=>h))<|Zw<|Zns<|Zb 3 U<|Znr ?_
  refine Zfx [0,0] (img_foldn (b:=b) hl (by simp)) U ?_
  refine Zre (.t U (.t U .n)) (hS.2 a b) [0,0] 0 U U U U
theorem quo16 {n:Nat} (h:n≤1048576):IntKind.i64.wrap ((n:Int).tdiv 16)=((n/16:Nat):Int):=by
 rw [Int.tdiv_eq_ediv_of_nonneg (by omega)]
 exact i64w (by omega) (by omega)
theorem quo16u {n:Nat} (h:n≤1048576):IntKind.u32.wrap (IntKind.i64.wrap ((n:Int).tdiv 16))=((n/16:Nat):Int):=by
 rw [quo16 h]
 exact u32w rfl (by omega)
theorem c104 (b:Nat) (l l2:List Int) (k f:Nat) (p:Value) (Cp Cp':Ck) (hl:l.length≤1048576) (hk:k<4294967296) (h2:k<l.length/16→l2.length=l.length) (hok:callOk Tryz.prog f=true) (hc:k<l.length/16→∀ g o cap,Sp Tryz.prog f [.slice (cutA (some ⟨g,o,none⟩) (k*16+16) (k*16) 1) 16 16,p] [.hp (own u8E (some ⟨g,o,none⟩) cap l),Cp] fun K=>K (.returned (.tuple #[])) [.hp (own u8E (some ⟨g,o,none⟩) cap l2),Cp']) :
  Sp Tryz.prog 104 [pt b,.int .u32 (k:Int),.func (.func f) #[] #[p]] [.hp (imgC b l),Cp] fun K=>(k<l.length/16→K (.returned (.int .i64 0)) [.hp (imgC b l2),Cp'])∧(l.length/16≤k→K (.returned (.int .i64 4)) [.hp (imgC b l),Cp]):=by
 have hq:=quo16u hl
 refine Zen Tryz.func104 U U U fun e X Φ hS=>Zsr<|Zy U<|Znq<|Zbl<|Zsr<|Zm U<|Zk (c57 ..) [0] U U ?_
 refine Zq<|Zy U<|Zn<|Zcf U<|Zsr<|Za 4 [0] U U ?_
 refine Zol 0 img_op U<|fun h0 g o cap hcp=>Zv (yd 0 U U U)<|Zv (sl_of ⟨_,Tryz.underlying23⟩ U)<|Zv (yquo U U (by decide) U)<|Zv (ycv Tryz.underlying3 Tryz.underlying40 U U)<|Zb 2 U<|Zn<|Zif U (fun h11=>?_) (fun h11=>?_)
 refine Zsr<|Zy U<|Znr<|Zr2<|Zr1 ?_
 rotate_left
 refine Zsk<|Zxn<|Zxs<|Zm U<|Zv (ycv Tryz.underlying40 Tryz.underlying3 U (i64w U (by omega)))<|Zv (ymul U U (i64w U (by omega)))<|Zy U<|Zn ?_
 refine Zsr<|Za 7 [0,0] U U<|Zv (yadd U U (i64w U (by omega)))<|Zm U ?_
 refine Zv (yadd U U (i64w U (by omega))) ?_
 rotate_left
 ·rw [hq] at h11
  refine Zfx [0,0] (img_fold h0) U ?_
  refine Zre (.t U .n) (hS.2 (by omega)) [0,0] 0 U U U U
 ·rw [hq] at h11
  have hlt:k<l.length/16:=by omega
  refine Zv (yslf (i:=k*16) (j:=k*16+16) (m:=k*16+16) 1 Tryz.underlying23 U U U U (by omega) (by omega) (by omega) (n1:=16) (c1:=16) (by omega) (by omega)) ?_
  refine Zkv (hc hlt g o cap) [1,1] U U U U<|Zq<|Zns<|Zy U<|Znr ?_
  refine Zfx [2,0] (img_foldn (b:=b) (l:=l2) (by have:=h2 hlt;omega) (h2 hlt).symm) U ?_
  refine Zre (.t U .n) (hS.1 hlt) [0,0] 0 U U U U
def lineF (l:List Int) (k:Nat):List Int:=(l.take (k*16+16)).drop (k*16)
def setF (l:List Int) (k:Nat) (bs:List Int):List Int:=l.take (k*16)++bs++l.drop (k*16+bs.length)
theorem c105 (b1:Nat) (bs:List Int) (hb:bs.length=16) (A:Option Addr) (cap k:Nat) (l:List Int) (hk:k<l.length/16):Sp Tryz.prog 105 [.slice (cutA A (k*16+16) (k*16) 1) 16 16,pt b1] [.hp (own u8E A cap l),.blk b1 115 (bs.map (Value.int .u8))] fun K=>K (.returned (.tuple #[])) [.hp (own u8E A cap (setF l k bs)),.blk b1 115 (bs.map (Value.int .u8))]:=by
 have hR:=Rd.arr (E:=u8E) (b:=b1) (tb:=115) (flat_int (TT:=5) (kk := .u8) bs) (ml_le (by omega))
 refine Zen Tryz.func105 U U U fun e X Φ hS=>Zrg<|Zm U<|Zv (yarr Tryz.underlying115 U) ?_
 refine Ze (ecp' 0 1 (k*16) U Tryz.underlying23 U U U hR U U hb.symm hb.symm (by omega) (by omega) (cutA_at (by omega)))<|Zw<|Znl<|Zee<|Zre .n hS [0,0] 0 U U U U
theorem line_len {l:List Int} {k:Nat} (h:k<l.length/16):(lineF l k).length=16:=by
 unfold lineF
 simp
 omega
theorem set_len {l bs:List Int} {k:Nat} (h:k<l.length/16) (hb:bs.length=16):(setF l k bs).length=l.length:=by
 unfold setF
 simp
 omega
theorem c302 (b1:Nat) (cs:List Value) (hc:cs.length=16) (A:Option Addr) (cap k:Nat) (l:List Int) (hk:k<l.length/16):Sp Tryz.prog 302 [.slice (cutA A (k*16+16) (k*16) 1) 16 16,pt b1] [.hp (own u8E A cap l),.blk b1 115 cs] fun K=>K (.returned (.tuple #[])) [.hp (own u8E A cap l),.blk b1 115 ((lineF l k).map (Value.int .u8))]:=by
 have hR:=Rd.cut (i:=k*16) (j:=k*16+16) (own.rd (E:=u8E) (A:=A) (cap:=cap) (l:=l)) (by omega) (by omega)
 have hl:=line_len hk
 refine Zen Tryz.func302 U U U fun e X Φ hS=>Zrg<|Zv (yarr Tryz.underlying115 U)<|Zm U ?_
 refine Ze (eca' 1 0 Tryz.underlying23 U U U hR U U hl.symm hl.symm (hc.trans hl.symm) (by show 0<(lineF l k).length;omega))<|Zw<|Znl<|Zee<|Zre .n hS [0,0] 0 U U U U
theorem c56 (b k:Nat) (l bs:List Int) (hb:bs.length=16) (hl:l.length≤1048576) (hk:k<4294967296):Sp Tryz.prog 56 [pt b,.int .u32 (k:Int),.agg (bs.map (Value.int .u8)).toArray] [.hp (imgC b l)] fun K=>(k<l.length/16→K (.returned (.int .i64 0)) [.hp (imgC b (setF l k bs))])∧(l.length/16≤k→K (.returned (.int .i64 4)) [.hp (imgC b l)]):=by
 refine Zen Tryz.func56 U U U fun e X Φ hS=>Zsr<|Ze (ebx U) fun b5=>Zw<|Zy U<|Zns<|Zb 2 U<|Zv (yfn U U) ?_
 refine Zk (c104 b l (setF l k bs) k 105 (pt b5) (.blk b5 115 (bs.map (Value.int .u8))) (.blk b5 115 (bs.map (Value.int .u8))) hl hk (fun h=>set_len h hb) (by kernel_rfl) (fun h g o cap=>c105 b5 bs hb _ cap k l h)) [1,0] U U<|⟨?_,?_⟩
 refine fun a=>Zq <| Zv (ya rfl) <| Znl <| Znx <| Zrt ?_
 rotate_left
 refine fun a=>Zq <| Zv (ya rfl) <| Znl <| Znx <| Zrt ?_
 rotate_left
 ·refine Zre (.t U .n) (hS.1 a) [0] 1 U U U U
 ·refine Zre (.t U .n) (hS.2 a) [0] 1 U U U U
theorem c258 (b k:Nat) (l:List Int) (hl:l.length≤1048576) (hk:k<4294967296):Sp Tryz.prog 258 [pt b,.int .u32 (k:Int)] [.hp (imgC b l)] fun K=>(k<l.length/16→K (.returned (.tuple #[.agg ((lineF l k).map (Value.int .u8)).toArray,.int .i64 0])) [.hp (imgC b l)])∧(l.length/16≤k→K (.returned (.tuple #[.agg ((List.replicate 16 0).map (Value.int .u8)).toArray,.int .i64 4])) [.hp (imgC b l)]):=by
 have hll:=@line_len l k
 refine Zen Tryz.func258 U U U fun e X Φ hS=>Zsr<|Ze (eal z115) fun b4=>Zw<|Zy U<|Zns<|Ze (eal z115) fun b6=>Zw<|Zn ?_
 refine Zsr<|Zb 2 U<|Zv (yfn U U) ?_
 refine Zk (c104 b l l k 302 (pt b6) (.blk b6 115 (List.replicate 16 (Value.int .u8 0))) (.blk b6 115 ((lineF l k).map (Value.int .u8))) hl hk (fun _=>U) (by kernel_rfl) (fun h g o cap=>c302 b6 (List.replicate 16 (Value.int .u8 0)) U _ cap k l h)) [2,0] U U<|⟨?_,?_⟩
 refine fun a=>Zq <| Zv (ya rfl) <| Znl <| Znx <| Zsr <| Zv (ydw 1 (m:=16) rfl rfl (by simp [*])) <| Zv (ym rfl) <| Ze (esw 2 (m:=16) rfl rfl rfl rfl rfl (by simp [*]) (all_map_int _ _)) <| Zw0 <| Zv (ya rfl) ?_
 refine Znr ?_
 rotate_left
 refine fun a=>Zq <| Zv (ya rfl) <| Znl <| Znx <| Zsr <| Zv (ydw 1 (m:=16) rfl rfl rfl) <| Zv (ym rfl) <| Ze (esw 2 (m:=16) rfl rfl rfl rfl rfl rfl rfl) <| Zw0 <| Zv (ya rfl) ?_
 refine Znr ?_
 rotate_left
 ·refine Zre (.wh 2 (m:=16) U U (by simp [*]) (.t U .n)) (hS.1 a) [0] 2 U U U U
 ·refine Zre (.wh 2 (m:=16) U U U (.t U .n)) (hS.2 a) [0] 2 U U U U
def wv (a b:Bool):Value := .agg #[.bool a,.bool b]
def wantL:List (Int × Value):=[(10,wv false true),(9,wv false true),(8,wv false true),(7,wv false false),(6,wv false false),(5,wv false false),(4,wv false false),(13,wv true false),(12,wv true false),(11,wv true true),(3,wv true true),(2,wv true false),(1,wv true false)]
theorem c225:Sp Tryz.prog 225 [] [] fun K=>∀ r,K (.returned (.map (some r))) [mapC .i64 r wantL]:=by
 refine Zen Tryz.func225 U U U fun e X Φ hS=>Zsr<|Zy U<|Zns<|Ze (emk .i64) fun r1=>Zw<|Zv (yb l340 U)<|Ze (ein 0 U U U U U U Tryz.underlying342 Tryz.underlying114)<|Zw0<|Zv (yb l340 U) ?_
 refine Ze (ein 0 U U U U U U Tryz.underlying342 Tryz.underlying114)<|Zw0<|Zv (yb l340 U)<|Ze (ein 0 U U U U U U Tryz.underlying342 Tryz.underlying114)<|Zw0<|Zv (yb l340 U)<|Ze (ein 0 U U U U U U Tryz.underlying342 Tryz.underlying114)<|Zw0<|Zv (yb l340 U)<|Ze (ein 0 U U U U U U Tryz.underlying342 Tryz.underlying114)<|Zw0<|Zv (yb l340 U)<|Ze (ein 0 U U U U U U Tryz.underlying342 Tryz.underlying114)<|Zw0<|Zv (yb l340 U) ?_
 refine Ze (ein 0 U U U U U U Tryz.underlying342 Tryz.underlying114)<|Zw0<|Zv (yb l340 U)<|Ze (ein 0 U U U U U U Tryz.underlying342 Tryz.underlying114)<|Zw0<|Zv (yb l340 U)<|Ze (ein 0 U U U U U U Tryz.underlying342 Tryz.underlying114)<|Zw0<|Zv (yb l340 U)<|Ze (ein 0 U U U U U U Tryz.underlying342 Tryz.underlying114)<|Zw0<|Zv (yb l340 U)<|Ze (ein 0 U U U U U U Tryz.underlying342 Tryz.underlying114)<|Zw0<|Zv (yb l340 U) ?_
 refine Ze (ein 0 U U U U U U Tryz.underlying342 Tryz.underlying114)<|Zw0<|Zv (yb l340 U)<|Ze (ein 0 U U U U U U Tryz.underlying342 Tryz.underlying114)<|Zw0<|Zb 2 U<|Znr ?_
 refine Zre (.t U .n) (hS r1) [0] 0 U U U U
theorem want_lk (k:Int):lk k wantL=if isK k then some (wv (homeK k) (bytesK k)) else none:=by
 by_cases h:k=1∨k=2∨k=3∨k=4∨k=5∨k=6∨k=7∨k=8∨k=9∨k=10∨k=11∨k=12∨k=13
 ·rcases h with rfl | rfl | rfl | rfl | rfl | rfl | rfl | rfl | rfl | rfl | rfl | rfl | rfl <;> rfl
 ·have e1:isK k=false:=by simp [isK];omega
  rw [e1]
  have hn:∀ c:Int,c=1∨c=2∨c=3∨c=4∨c=5∨c=6∨c=7∨c=8∨c=9∨c=10∨c=11∨c=12∨c=13→(k == c)=false:=by
   intro c hc
   simp
   omega
  simp [wantL,lk,hn]
theorem chk_eq (m:Msg):chk m=(if isK m.kind=false then 2 else if homeK m.kind=true then (if m.dst≠4∨m.src<0∨4≤m.src∨(bytesK m.kind=false∧m.bs≠b16z) then 2 else 0) else (if m.src≠4∨m.dst<0∨4≤m.dst∨(bytesK m.kind=false∧m.bs≠b16z) then 2 else 0)):=by
 unfold chk goodMsg
 rw [isK_iff]
 cases hh:homeK m.kind with
 | true=>
  have hc:=home_not _ hh
  simp only [hc,isCache,bs0]
  cases bytesK m.kind <;> simp <;> grind
 | false=>
  cases hc:cacheK m.kind with
  | true=>
   simp only [isCache,bs0]
   cases bytesK m.kind <;> simp <;> grind
  | false=>simp
theorem c190 (m:Msg):Sp Tryz.prog 190 [.agg (msgE.arr m)] [] fun K=>K (.returned (.int .i64 (chk m))) []:=by
 have hlk:=want_lk m.kind
 rw [chk_eq]
 cases hk:isK m.kind with
 | false=>
  rw [hk] at hlk
  have hl:lk m.kind wantL=none:=hlk
  refine Zen Tryz.func190 U U U fun e X Φ hS=>Zsr<|Ze (ebxE U) fun b1=>Zw<|Zy U<|Znq<|Zhd [] U U<|Zht 1 U (yf 0 U)<|Zht 2 U (yd 0 U U U) ?_
  refine ZH2 0 7 (Zok (c225 ..) [] U U U ?_) (Zoe U (eal z340) fun b3=>Zwh 1 U ?_)
  refine fun r=>Zqh 1 rfl <| Zh2 3 7 (by kernel_rfl) (Zov rfl (ylk' 0 hl rfl rfl rfl Tryz.underlying342 Tryz.underlying114 zv340) ?_) (Zoe rfl (eal z340) fun b3=>Zwh 2 rfl ?_)
  refine Zht 4 U (ym U)<|Zht 5 U (yx U U)<|Zht 6 U (yx U U)<|ZH1 7<|Zoe U (eal z340) fun b3=>Zwh 2 U<|ZH1 8<|Zoe U (esw 0 (m:=2) U U U U U U U)<|Zwh0 2 U<|Zht 9 U (ya U)<|ZHn<|Zxs<|Zv (yf 2 U) ?_
  refine Za 2 [2] U U<|Znq<|Zbl<|Zsq<|Zbl<|Zsq<|Zbl ?_
  refine Zsq<|Zbl<|Zsq<|Zsq<|Zsr<|Zb 3 U<|Zn ?_
  refine Zct U<|Zex<|Zxt<|Zxt<|Zxx<|Zxq<|Zsr<|Zy U<|Znl ?_
  refine Zxr<|Zr1<|Zr2<|Zr1<|Zr2<|Zr1<|Zr2<|Zr1<|Zre (.t U .n) hS [] 3 U U U U
  refine ZH1 3<|Zov U (ylk' 1 hl U U U Tryz.underlying342 Tryz.underlying114 zv340)<|Zht 4 U (ym U)<|Zht 5 U (yx U U)<|Zht 6 U (yx U U)<|ZH1 8<|Zoe U (esw 0 (m:=2) U U U U U U U)<|Zwh0 2 U<|Zht 9 U (ya U)<|ZHn<|Zxs<|Zv (yf 2 U) ?_
  refine Za 2 [2] U U<|Znq<|Zbl<|Zsq<|Zbl<|Zsq<|Zbl ?_
  refine Zsq<|Zbl<|Zsq<|Zsq<|Zsr<|Zb 3 U<|Zn ?_
  refine Zct U<|Zex<|Zxt<|Zxt<|Zxx<|Zxq<|Zsr<|Zy U<|Znl ?_
  refine Zxr<|Zr1<|Zr2<|Zr1<|Zr2<|Zr1<|Zr2<|Zr1<|Zre (.t U .n) hS [] 3 U U U U
  refine ZH1 0<|Zok (c225 ..) [] U U U<|fun r=>Zqh 2 U<|ZH1 3<|Zov U (ylk' 0 hl U U U Tryz.underlying342 Tryz.underlying114 zv340)<|Zht 4 U (ym U)<|Zht 5 U (yx U U)<|Zht 6 U (yx U U)<|ZH1 8<|Zoe U (esw 1 (m:=2) U U U U U U U)<|Zwh0 2 U<|Zht 9 U (ya U)<|ZHn ?_
  refine Zxs<|Za 3 [2,2] U U<|Znq<|Zbl<|Zsq ?_
  refine Zbl<|Zsq<|Zbl<|Zsq<|Zbl<|Zsq<|Zsq<|Zsr<|Zb 2 U ?_
  refine Zy U<|Zn<|Zct U<|Zex<|Zxt<|Zxt<|Zxx<|Zxq ?_
  refine Zsr<|Zy U<|Znr<|Zr1<|Zr2<|Zr1<|Zr2<|Zr1 ?_
  refine Zr2<|Zr1<|Zre (.t U .n) hS [] 3 U U U U
 | true=>
  rw [hk] at hlk
  have hl:lk m.kind wantL=some (wv (homeK m.kind) (bytesK m.kind)):=hlk
  refine Zen Tryz.func190 U U U fun e X Φ hS=>Zsr<|Ze (ebxE U) fun b1=>Zw<|Zy U<|Znq<|Zhd [] U U<|Zht 1 U (yf 0 U)<|Zht 2 U (yd 0 U U U) ?_
  refine ZH2 0 7 (Zok (c225 ..) [] U U U ?_) (Zoe U (eal z340) fun b3=>Zwh 1 U ?_)
  refine fun r=>Zqh 1 rfl <| Zh2 3 7 (by kernel_rfl) (Zov rfl (ylk' 0 hl rfl rfl rfl Tryz.underlying342 Tryz.underlying114 zv340) ?_) (Zoe rfl (eal z340) fun b3=>Zwh 2 rfl ?_)
  refine Zht 4 U (ym U)<|Zht 5 U (yx U U)<|Zht 6 U (yx U U)<|ZH1 7<|Zoe U (eal z340) fun b3=>Zwh 2 U<|ZH1 8<|Zoe U (esw 0 (m:=2) U U U U U U U)<|Zwh0 2 U<|Zht 9 U (ya U)<|ZHn<|Zxs<|Zv (yf 2 U) ?_
  refine Za 2 [2] U U<|Znq<|Zbl<|Zsq<|Zbl<|Zsq<|Zbl ?_
  refine Zsq<|Zbl<|Zsq<|Zsq<|Zsr<|Zb 3 U<|Zn ?_
  refine Zcf U<|Zks<|Za 3 [0,0] U U<|Zn<|Zib U (fun h18=>?_) (fun h18=>?_)
  refine Zex<|Zxt<|Zxb U<|Zxt<|Zxx<|Zxq<|Zsr<|Za 2 [2,2] U U ?_
  refine Zv (yne U U)<|Zn<|Zif U (fun h23=>?_) (fun h23=>?_)
  refine Zsr<|Zy U<|Znr<|Zr1<|Zr2<|Zr1<|Zr2<|Zr1 ?_
  refine Zre (.t U .n) hS [] 3 ?_ U U U
  rotate_left
  refine Zkn<|Zrg<|Za 3 [1,2] U U<|Znl<|Zxn<|Zxq ?_
  refine Zsr<|Za 4 [0,0] U U<|Zu' U U (congrArg Bool.not h18) U<|Zu' U U (congrArg Bool.not h18) U<|Zu' U U (congrArg Bool.not h18) U<|Zv (ypf' U (congrArg Bool.not h18) U)<|Zm U ?_
  refine Zb 4 U<|Zgs U U (fun h38=>?_) (fun h38=>?_)
  refine Zu' U U (dT h38) U<|Zu' U U (dT h38) U<|Zv (ypt' U (dT h38) U)<|Zb 7 U ?_
  refine Zb 4 U<|Zn<|Zct U<|Zsr<|Zy U<|Znl ?_
  refine Zxr<|Zr1<|Zr2<|Zr1<|Zre (.t U .n) hS [] 3 ?_ U U U
  rotate_left
  refine Zg' U U (dF h38)<|Zm U<|Zg' U U (dF h38)<|Zv (yge U U)<|Zv (ypf' U (dF h38) U)<|Zm U<|Zgs U U (fun h42=>?_) (fun h42=>?_)
  refine Zu' U U (dT h42) U<|Zu' U U (dT h42) U<|Zu' U U (dT h42) U<|Zu' U U (dT h42) U<|Zb 4 U<|Zu' U U (dT h42) U<|Zv (ypt' U (dT h42) U) ?_
  refine Zn<|Zct U<|Zsr<|Zy U<|Znr<|Zr1<|Zr2 ?_
  refine Zr1<|Zre (.t U .n) hS [] 3 ?_ U U U
  rotate_left
  refine Zg' U U (dF h42)<|Zv (yf 1 U)<|Zg' U U (dF h42)<|Zv (yd 0 U U U)<|Zg' U U (dF h42)<|Zv (ynot U)<|Zg' U U (dF h42)<|Zm U<|Zgb U U (fun h46=>?_) (fun h46=>?_)
  refine Zg' U U h46<|Zv (yf 4 U)<|Zg' U U h46<|Zv (yda 2 (m:=16) U U (msg_bs' _) (Enc.len ..))<|Zg' U U h46<|Zv (yb l115 U)<|Zg' U U h46<|Zv (yneE bsER _ b16z U U)<|Zg' U U (dF h42)<|Zv (ypt' U h46 U) ?_
  refine Zv (ypf' U (dF h42) U)<|Zn<|Zib U (fun h52=>?_) (fun h52=>?_)
  refine Zsr<|Zy U<|Znr<|Zr1<|Zr2<|Zr1<|Zre (.t U .n) hS [] 3 ?_ U U U
  rotate_left
  refine Zkn<|Zex<|Zxx<|Zxs<|Zy U<|Znr ?_
  refine Zre (.t U .n) hS [] 3 ?_ U U U
  rotate_left
  refine Zu' U U h46 U<|Zu' U U h46 U<|Zu' U U h46 U<|Zu' U U h46 U<|Zg' U U (dF h42)<|Zv (ypf' U h46 U)<|Zv (ypf' U (dF h42) U)<|Zn<|Zcf U ?_
  refine Zkn<|Zex<|Zxx<|Zxs<|Zy U<|Znr ?_
  refine Zre (.t U .n) hS [] 3 ?_ U U U
  rotate_left
  refine Zkn<|Zex<|Zxb U<|Zxt<|Zxb U<|Zxt<|Zxx<|Zxq ?_
  refine Zsr<|Za 4 [0,0] U U<|Zg' U U (congrArg Bool.not h18)<|Zv (yf 1 U)<|Zg' U U (congrArg Bool.not h18)<|Zv (yd 2 U U U)<|Zg' U U (congrArg Bool.not h18) ?_
  refine Zv (yne U U)<|Zv (ypt' U (congrArg Bool.not h18) U)<|Zm U<|Zgs U U (fun h34=>?_) (fun h34=>?_)
  refine Zu' U U (dT h34) U<|Zu' U U (dT h34) U<|Zv (ypt' U (dT h34) U)<|Zb 7 U ?_
  refine Zb 8 U<|Zn ?_
  refine Zct U<|Zsr<|Zy U<|Znr<|Zr1<|Zr2<|Zr1<|Zre (.t U .n) hS [] 3 ?_ U U U
  rotate_left
  refine Zg' U U (dF h34)<|Zm U<|Zg' U U (dF h34)<|Zv (ylt U U)<|Zv (ypf' U (dF h34) U)<|Zm U<|Zgs U U (fun h38=>?_) (fun h38=>?_)
  refine Zu' U U (dT h38) U<|Zu' U U (dT h38) U<|Zv (ypt' U (dT h38) U)<|Zb 7 U ?_
  refine Zb 4 U<|Zn<|Zct U<|Zsr<|Zy U<|Znl ?_
  refine Zxr<|Zr1<|Zr2<|Zr1<|Zre (.t U .n) hS [] 3 ?_ U U U
  rotate_left
  refine Zg' U U (dF h38)<|Zm U<|Zg' U U (dF h38)<|Zv (yge U U)<|Zv (ypf' U (dF h38) U)<|Zm U<|Zgs U U (fun h42=>?_) (fun h42=>?_)
  refine Zu' U U (dT h42) U<|Zu' U U (dT h42) U<|Zu' U U (dT h42) U<|Zu' U U (dT h42) U<|Zb 4 U<|Zu' U U (dT h42) U<|Zv (ypt' U (dT h42) U) ?_
  refine Zn<|Zct U<|Zsr<|Zy U<|Znr<|Zr1<|Zr2 ?_
  refine Zr1<|Zre (.t U .n) hS [] 3 ?_ U U U
  rotate_left
  refine Zg' U U (dF h42)<|Zv (yf 1 U)<|Zg' U U (dF h42)<|Zv (yd 0 U U U)<|Zg' U U (dF h42)<|Zv (ynot U)<|Zg' U U (dF h42)<|Zm U<|Zgb U U (fun h46=>?_) (fun h46=>?_)
  refine Zg' U U h46<|Zv (yf 4 U)<|Zg' U U h46<|Zv (yda 2 (m:=16) U U (msg_bs' _) (Enc.len ..))<|Zg' U U h46<|Zv (yb l115 U)<|Zg' U U h46<|Zv (yneE bsER _ b16z U U)<|Zg' U U (dF h42)<|Zv (ypt' U h46 U) ?_
  refine Zv (ypf' U (dF h42) U)<|Zn<|Zib U (fun h52=>?_) (fun h52=>?_)
  refine Zsr<|Zy U<|Znr<|Zr1<|Zr2<|Zr1<|Zre (.t U .n) hS [] 3 ?_ U U U
  rotate_left
  refine Zkn<|Zex<|Zxx<|Zxs<|Zy U<|Znr ?_
  refine Zre (.t U .n) hS [] 3 ?_ U U U
  rotate_left
  refine Zu' U U h46 U<|Zu' U U h46 U<|Zu' U U h46 U<|Zu' U U h46 U<|Zg' U U (dF h42)<|Zv (ypf' U h46 U)<|Zv (ypf' U (dF h42) U)<|Zn<|Zcf U ?_
  refine Zkn<|Zex<|Zxx<|Zxs<|Zy U<|Znr ?_
  refine Zre (.t U .n) hS [] 3 ?_ U U U
  rotate_left
  refine ZH1 3<|Zov U (ylk' 1 hl U U U Tryz.underlying342 Tryz.underlying114 zv340)<|Zht 4 U (ym U)<|Zht 5 U (yx U U)<|Zht 6 U (yx U U)<|ZH1 8<|Zoe U (esw 0 (m:=2) U U U U U U U)<|Zwh0 2 U<|Zht 9 U (ya U)<|ZHn<|Zxs<|Zv (yf 2 U) ?_
  refine Za 2 [2] U U<|Znq<|Zbl<|Zsq<|Zbl<|Zsq<|Zbl ?_
  refine Zsq<|Zbl<|Zsq<|Zsq<|Zsr<|Zb 3 U<|Zn ?_
  refine Zcf U<|Zks<|Za 3 [0,0] U U<|Zn<|Zib U (fun h18=>?_) (fun h18=>?_)
  refine Zex<|Zxt<|Zxb U<|Zxt<|Zxx<|Zxq<|Zsr<|Za 2 [2,2] U U ?_
  refine Zv (yne U U)<|Zn<|Zif U (fun h23=>?_) (fun h23=>?_)
  refine Zsr<|Zy U<|Znr<|Zr1<|Zr2<|Zr1<|Zr2<|Zr1 ?_
  refine Zre (.t U .n) hS [] 3 ?_ U U U
  rotate_left
  refine Zkn<|Zrg<|Za 3 [1,2] U U<|Znl<|Zxn<|Zxq ?_
  refine Zsr<|Za 4 [0,0] U U<|Zu' U U (congrArg Bool.not h18) U<|Zu' U U (congrArg Bool.not h18) U<|Zu' U U (congrArg Bool.not h18) U<|Zv (ypf' U (congrArg Bool.not h18) U)<|Zm U ?_
  refine Zb 4 U<|Zgs U U (fun h38=>?_) (fun h38=>?_)
  refine Zu' U U (dT h38) U<|Zu' U U (dT h38) U<|Zv (ypt' U (dT h38) U)<|Zb 7 U ?_
  refine Zb 4 U<|Zn<|Zct U<|Zsr<|Zy U<|Znl ?_
  refine Zxr<|Zr1<|Zr2<|Zr1<|Zre (.t U .n) hS [] 3 ?_ U U U
  rotate_left
  refine Zg' U U (dF h38)<|Zm U<|Zg' U U (dF h38)<|Zv (yge U U)<|Zv (ypf' U (dF h38) U)<|Zm U<|Zgs U U (fun h42=>?_) (fun h42=>?_)
  refine Zu' U U (dT h42) U<|Zu' U U (dT h42) U<|Zu' U U (dT h42) U<|Zu' U U (dT h42) U<|Zb 4 U<|Zu' U U (dT h42) U<|Zv (ypt' U (dT h42) U) ?_
  refine Zn<|Zct U<|Zsr<|Zy U<|Znr<|Zr1<|Zr2 ?_
  refine Zr1<|Zre (.t U .n) hS [] 3 ?_ U U U
  rotate_left
  refine Zg' U U (dF h42)<|Zv (yf 1 U)<|Zg' U U (dF h42)<|Zv (yd 0 U U U)<|Zg' U U (dF h42)<|Zv (ynot U)<|Zg' U U (dF h42)<|Zm U<|Zgb U U (fun h46=>?_) (fun h46=>?_)
  refine Zg' U U h46<|Zv (yf 4 U)<|Zg' U U h46<|Zv (yda 2 (m:=16) U U (msg_bs' _) (Enc.len ..))<|Zg' U U h46<|Zv (yb l115 U)<|Zg' U U h46<|Zv (yneE bsER _ b16z U U)<|Zg' U U (dF h42)<|Zv (ypt' U h46 U) ?_
  refine Zv (ypf' U (dF h42) U)<|Zn<|Zib U (fun h52=>?_) (fun h52=>?_)
  refine Zsr<|Zy U<|Znr<|Zr1<|Zr2<|Zr1<|Zre (.t U .n) hS [] 3 ?_ U U U
  rotate_left
  refine Zkn<|Zex<|Zxx<|Zxs<|Zy U<|Znr ?_
  refine Zre (.t U .n) hS [] 3 ?_ U U U
  rotate_left
  refine Zu' U U h46 U<|Zu' U U h46 U<|Zu' U U h46 U<|Zu' U U h46 U<|Zg' U U (dF h42)<|Zv (ypf' U h46 U)<|Zv (ypf' U (dF h42) U)<|Zn<|Zcf U ?_
  refine Zkn<|Zex<|Zxx<|Zxs<|Zy U<|Znr ?_
  refine Zre (.t U .n) hS [] 3 ?_ U U U
  rotate_left
  refine Zkn<|Zex<|Zxb U<|Zxt<|Zxb U<|Zxt<|Zxx<|Zxq ?_
  refine Zsr<|Za 4 [0,0] U U<|Zg' U U (congrArg Bool.not h18)<|Zv (yf 1 U)<|Zg' U U (congrArg Bool.not h18)<|Zv (yd 2 U U U)<|Zg' U U (congrArg Bool.not h18) ?_
  refine Zv (yne U U)<|Zv (ypt' U (congrArg Bool.not h18) U)<|Zm U<|Zgs U U (fun h34=>?_) (fun h34=>?_)
  refine Zu' U U (dT h34) U<|Zu' U U (dT h34) U<|Zv (ypt' U (dT h34) U)<|Zb 7 U ?_
  refine Zb 8 U<|Zn ?_
  refine Zct U<|Zsr<|Zy U<|Znr<|Zr1<|Zr2<|Zr1<|Zre (.t U .n) hS [] 3 ?_ U U U
  rotate_left
  refine Zg' U U (dF h34)<|Zm U<|Zg' U U (dF h34)<|Zv (ylt U U)<|Zv (ypf' U (dF h34) U)<|Zm U<|Zgs U U (fun h38=>?_) (fun h38=>?_)
  refine Zu' U U (dT h38) U<|Zu' U U (dT h38) U<|Zv (ypt' U (dT h38) U)<|Zb 7 U ?_
  refine Zb 4 U<|Zn<|Zct U<|Zsr<|Zy U<|Znl ?_
  refine Zxr<|Zr1<|Zr2<|Zr1<|Zre (.t U .n) hS [] 3 ?_ U U U
  rotate_left
  refine Zg' U U (dF h38)<|Zm U<|Zg' U U (dF h38)<|Zv (yge U U)<|Zv (ypf' U (dF h38) U)<|Zm U<|Zgs U U (fun h42=>?_) (fun h42=>?_)
  refine Zu' U U (dT h42) U<|Zu' U U (dT h42) U<|Zu' U U (dT h42) U<|Zu' U U (dT h42) U<|Zb 4 U<|Zu' U U (dT h42) U<|Zv (ypt' U (dT h42) U) ?_
  refine Zn<|Zct U<|Zsr<|Zy U<|Znr<|Zr1<|Zr2 ?_
  refine Zr1<|Zre (.t U .n) hS [] 3 ?_ U U U
  rotate_left
  refine Zg' U U (dF h42)<|Zv (yf 1 U)<|Zg' U U (dF h42)<|Zv (yd 0 U U U)<|Zg' U U (dF h42)<|Zv (ynot U)<|Zg' U U (dF h42)<|Zm U<|Zgb U U (fun h46=>?_) (fun h46=>?_)
  refine Zg' U U h46<|Zv (yf 4 U)<|Zg' U U h46<|Zv (yda 2 (m:=16) U U (msg_bs' _) (Enc.len ..))<|Zg' U U h46<|Zv (yb l115 U)<|Zg' U U h46<|Zv (yneE bsER _ b16z U U)<|Zg' U U (dF h42)<|Zv (ypt' U h46 U) ?_
  refine Zv (ypf' U (dF h42) U)<|Zn<|Zib U (fun h52=>?_) (fun h52=>?_)
  refine Zsr<|Zy U<|Znr<|Zr1<|Zr2<|Zr1<|Zre (.t U .n) hS [] 3 ?_ U U U
  rotate_left
  refine Zkn<|Zex<|Zxx<|Zxs<|Zy U<|Znr ?_
  refine Zre (.t U .n) hS [] 3 ?_ U U U
  rotate_left
  refine Zu' U U h46 U<|Zu' U U h46 U<|Zu' U U h46 U<|Zu' U U h46 U<|Zg' U U (dF h42)<|Zv (ypf' U h46 U)<|Zv (ypf' U (dF h42) U)<|Zn<|Zcf U ?_
  refine Zkn<|Zex<|Zxx<|Zxs<|Zy U<|Znr ?_
  refine Zre (.t U .n) hS [] 3 ?_ U U U
  rotate_left
  refine ZH1 0<|Zok (c225 ..) [] U U U<|fun r=>Zqh 2 U<|ZH1 3<|Zov U (ylk' 0 hl U U U Tryz.underlying342 Tryz.underlying114 zv340)<|Zht 4 U (ym U)<|Zht 5 U (yx U U)<|Zht 6 U (yx U U)<|ZH1 8<|Zoe U (esw 1 (m:=2) U U U U U U U)<|Zwh0 2 U<|Zht 9 U (ya U)<|ZHn ?_
  refine Zxs<|Za 3 [2,2] U U<|Znq<|Zbl<|Zsq ?_
  refine Zbl<|Zsq<|Zbl<|Zsq<|Zbl<|Zsq<|Zsq<|Zsr<|Zb 2 U ?_
  refine Zy U<|Zn<|Zcf U<|Zks<|Za 3 [0,1] U U ?_
  refine Zn<|Zib U (fun h18=>?_) (fun h18=>?_)
  refine Zex<|Zxt<|Zxb U<|Zxt<|Zxx<|Zxq<|Zsr<|Za 2 [2,2] U U ?_
  refine Zv (yne U U)<|Zn<|Zif U (fun h23=>?_) (fun h23=>?_)
  refine Zsr<|Zy U<|Znr<|Zr1<|Zr2<|Zr1<|Zr2<|Zr1 ?_
  refine Zre (.t U .n) hS [] 3 ?_ U U U
  rotate_left
  refine Zkn<|Zrg<|Za 3 [1,2] U U<|Znl<|Zxn<|Zxq ?_
  refine Zsr<|Za 4 [0,1] U U<|Zu' U U (congrArg Bool.not h18) U<|Zu' U U (congrArg Bool.not h18) U<|Zu' U U (congrArg Bool.not h18) U<|Zv (ypf' U (congrArg Bool.not h18) U)<|Zm U ?_
  refine Zb 4 U<|Zgs U U (fun h38=>?_) (fun h38=>?_)
  refine Zu' U U (dT h38) U<|Zu' U U (dT h38) U<|Zv (ypt' U (dT h38) U)<|Zb 7 U ?_
  refine Zb 4 U<|Zn<|Zct U<|Zsr<|Zy U<|Znl ?_
  refine Zxr<|Zr1<|Zr2<|Zr1<|Zre (.t U .n) hS [] 3 ?_ U U U
  rotate_left
  refine Zg' U U (dF h38)<|Zm U<|Zg' U U (dF h38)<|Zv (yge U U)<|Zv (ypf' U (dF h38) U)<|Zm U<|Zgs U U (fun h42=>?_) (fun h42=>?_)
  refine Zu' U U (dT h42) U<|Zu' U U (dT h42) U<|Zu' U U (dT h42) U<|Zu' U U (dT h42) U<|Zb 4 U<|Zu' U U (dT h42) U<|Zv (ypt' U (dT h42) U) ?_
  refine Zn<|Zct U<|Zsr<|Zy U<|Znr<|Zr1<|Zr2 ?_
  refine Zr1<|Zre (.t U .n) hS [] 3 ?_ U U U
  rotate_left
  refine Zg' U U (dF h42)<|Zv (yf 1 U)<|Zg' U U (dF h42)<|Zv (yd 1 U U U)<|Zg' U U (dF h42)<|Zv (ynot U)<|Zg' U U (dF h42)<|Zm U<|Zgb U U (fun h46=>?_) (fun h46=>?_)
  refine Zg' U U h46<|Zv (yf 4 U)<|Zg' U U h46<|Zv (yda 2 (m:=16) U U (msg_bs' _) (Enc.len ..))<|Zg' U U h46<|Zv (yb l115 U)<|Zg' U U h46<|Zv (yneE bsER _ b16z U U)<|Zg' U U (dF h42)<|Zv (ypt' U h46 U) ?_
  refine Zv (ypf' U (dF h42) U)<|Zn<|Zib U (fun h52=>?_) (fun h52=>?_)
  refine Zsr<|Zy U<|Znr<|Zr1<|Zr2<|Zr1<|Zre (.t U .n) hS [] 3 ?_ U U U
  rotate_left
  refine Zkn<|Zex<|Zxx<|Zxs<|Zy U<|Znr ?_
  refine Zre (.t U .n) hS [] 3 ?_ U U U
  rotate_left
  refine Zu' U U h46 U<|Zu' U U h46 U<|Zu' U U h46 U<|Zu' U U h46 U<|Zg' U U (dF h42)<|Zv (ypf' U h46 U)<|Zv (ypf' U (dF h42) U)<|Zn<|Zcf U ?_
  refine Zkn<|Zex<|Zxx<|Zxs<|Zy U<|Znr ?_
  refine Zre (.t U .n) hS [] 3 ?_ U U U
  rotate_left
  refine Zkn<|Zex<|Zxb U<|Zxt<|Zxb U<|Zxt<|Zxx<|Zxq ?_
  refine Zsr<|Za 4 [0,1] U U<|Zg' U U (congrArg Bool.not h18)<|Zv (yf 1 U)<|Zg' U U (congrArg Bool.not h18)<|Zv (yd 2 U U U)<|Zg' U U (congrArg Bool.not h18) ?_
  refine Zv (yne U U)<|Zv (ypt' U (congrArg Bool.not h18) U)<|Zm U<|Zgs U U (fun h34=>?_) (fun h34=>?_)
  refine Zu' U U (dT h34) U<|Zu' U U (dT h34) U<|Zv (ypt' U (dT h34) U)<|Zb 7 U ?_
  refine Zb 8 U<|Zn ?_
  refine Zct U<|Zsr<|Zy U<|Znr<|Zr1<|Zr2<|Zr1<|Zre (.t U .n) hS [] 3 ?_ U U U
  rotate_left
  refine Zg' U U (dF h34)<|Zm U<|Zg' U U (dF h34)<|Zv (ylt U U)<|Zv (ypf' U (dF h34) U)<|Zm U<|Zgs U U (fun h38=>?_) (fun h38=>?_)
  refine Zu' U U (dT h38) U<|Zu' U U (dT h38) U<|Zv (ypt' U (dT h38) U)<|Zb 7 U ?_
  refine Zb 4 U<|Zn<|Zct U<|Zsr<|Zy U<|Znl ?_
  refine Zxr<|Zr1<|Zr2<|Zr1<|Zre (.t U .n) hS [] 3 ?_ U U U
  rotate_left
  refine Zg' U U (dF h38)<|Zm U<|Zg' U U (dF h38)<|Zv (yge U U)<|Zv (ypf' U (dF h38) U)<|Zm U<|Zgs U U (fun h42=>?_) (fun h42=>?_)
  refine Zu' U U (dT h42) U<|Zu' U U (dT h42) U<|Zu' U U (dT h42) U<|Zu' U U (dT h42) U<|Zb 4 U<|Zu' U U (dT h42) U<|Zv (ypt' U (dT h42) U) ?_
  refine Zn<|Zct U<|Zsr<|Zy U<|Znr<|Zr1<|Zr2 ?_
  refine Zr1<|Zre (.t U .n) hS [] 3 ?_ U U U
  rotate_left
  refine Zg' U U (dF h42)<|Zv (yf 1 U)<|Zg' U U (dF h42)<|Zv (yd 1 U U U)<|Zg' U U (dF h42)<|Zv (ynot U)<|Zg' U U (dF h42)<|Zm U<|Zgb U U (fun h46=>?_) (fun h46=>?_)
  refine Zg' U U h46<|Zv (yf 4 U)<|Zg' U U h46<|Zv (yda 2 (m:=16) U U (msg_bs' _) (Enc.len ..))<|Zg' U U h46<|Zv (yb l115 U)<|Zg' U U h46<|Zv (yneE bsER _ b16z U U)<|Zg' U U (dF h42)<|Zv (ypt' U h46 U) ?_
  refine Zv (ypf' U (dF h42) U)<|Zn<|Zib U (fun h52=>?_) (fun h52=>?_)
  refine Zsr<|Zy U<|Znr<|Zr1<|Zr2<|Zr1<|Zre (.t U .n) hS [] 3 ?_ U U U
  rotate_left
  refine Zkn<|Zex<|Zxx<|Zxs<|Zy U<|Znr ?_
  refine Zre (.t U .n) hS [] 3 ?_ U U U
  rotate_left
  refine Zu' U U h46 U<|Zu' U U h46 U<|Zu' U U h46 U<|Zu' U U h46 U<|Zg' U U (dF h42)<|Zv (ypf' U h46 U)<|Zv (ypf' U (dF h42) U)<|Zn<|Zcf U ?_
  refine Zkn<|Zex<|Zxx<|Zxs<|Zy U<|Znr ?_
  refine Zre (.t U .n) hS [] 3 ?_ U U U
  rotate_left
  all_goals (clear hS;simp_all [pk])
def netC (b:Nat) (most:Int) (q:List Msg):HP:=fun h=>∃ A cap,Sep [.blk b 191 [.slice A q.length cap,.int .i64 most],.hp (own msgE A cap q)] h
theorem net_op {b:Nat} {most:Int} {q:List Msg}:Op_ (netC b most q) fun K=>∀ A cap,K [.blk b 191 [.slice A q.length cap,.int .i64 most],.hp (own msgE A cap q)] := .mk fun G k h hh=>by
 obtain ⟨A,cap,hs⟩:=hh
 exact ⟨_,k A cap,hs⟩
theorem net_fold {b cap n:Nat} {most:Int} {A:Option Addr} {q:List Msg} (hn:n=q.length):∀ h,Sep [.blk b 191 [.slice A n cap,.int .i64 most],.hp (own msgE A cap q)] h→netC b most q h:=fun _ hs=>⟨A,cap,hn ▸ hs⟩
theorem c79 (b:Nat) (most:Int) (q:List Msg) (h0:most≠0:=by assumption):Sp Tryz.prog 79 [pt b] [.hp (netC b most q)] fun K=>K (.returned (.bool false)) [.hp (netC b most q)]:=by
 refine Zen Tryz.func79 U U U fun e X Φ hS=>Zsr<|Zy U<|Zns<|Zm U<|Zv (ypeq U U U)<|Zm U<|Zg U U ?_
 refine Za 3 [1] U U<|Zg U U ?_
 refine Zol 0 net_op U<|fun A cap=>Zv (yd 0 U U U)<|Zb 3 U<|Znr ?_
 refine Zfx [0,0] (net_fold (q:=q) U) U<|Zre (.t U .n) hS [0] 0 ?_ U U U
 simp [pk,h0]
theorem c72 (most:Int) (h:1≤most∧most≤1024):Sp Tryz.prog 72 [.int .i64 most] [] fun K=>∀ b,K (.returned (.tuple #[pt b,.int .i64 0])) [.hp (netC b most [])]:=by
 refine Zen Tryz.func72 U U U fun e X Φ hS=>Zsr<|Zb 2 U<|Znqs<|Zb 2 U ?_
 refine Zm U<|Zg' U U (dF (by omega))<|Zm U<|Zg' U U (dF (by omega))<|Zv (ygt U U)<|Zv (ypf' U (dF (by omega)) U)<|Zn<|Zcf' U (dF (by omega))<|Zsk ?_
 refine Zxs<|Zm U<|Zv (yb l191 U)<|Ze (ebx U) fun b12=>Zw<|Zb 2 U<|Znr ?_
 refine Zix (fun _ hs=>sep_nil (E:=msgE) hs) ?_
 refine Zfx [1,0] (net_fold (b:=b12) (q:=[]) U) U ?_
 refine Zre (.t U (.t U .n)) (hS b12) [0] 0 U U U U
theorem c117 (b:Nat) (most:Int) (q:List Msg) (h0:most≠0:=by assumption):Sp Tryz.prog 117 [pt b] [.hp (netC b most q)] fun K=>K (.returned (.int .i64 (q.length:Int))) [.hp (netC b most q)]:=by
 refine Zen Tryz.func117 U U U fun e X Φ hS=>Zsr<|Zy U<|Znqs<|Zm U<|Zk (c79 ..) [0] U U<|Zq ?_
 refine Zn<|Zcf U<|Zks<|Za 3 [0] U U ?_
 refine Zol 0 net_op U<|fun A cap=>Zv (yd 0 U U U)<|Zv (sl_of ⟨_,Tryz.underlying112⟩ U)<|Zy U<|Znr ?_
 refine Zfx [0,0] (net_fold (q:=q) U) U<|Zre (.t U .n) hS [0] 0 U U U U
theorem c123 (c:Ck) (A:Option Addr) (cap:Nat) (q:List Msg) (hR:Rd msgE c A cap q) (hA:A=none→q=[]∧cap=0) (hl:q.length≤1048576):Sp Tryz.prog 123 [.slice A q.length cap] [c] fun K=>∀ A' cap',K (.returned (.slice A' q.length cap')) [.hp (own msgE A' cap' q),c]:=by
 cases A with
 | none=>
  obtain ⟨rfl,rfl⟩:=hA rfl
  refine Zen Tryz.func123 U U U fun e X Φ hS=>Zsr<|Zy U<|Znqs<|Zm U<|Zv (ysleq ⟨_,Tryz.underlying112⟩ U U)<|Znl ?_
  refine Znx<|Zct U<|Zsr<|Zy U<|Znr<|Zr1 ?_
  refine Zix (fun _ hs=>sep_nil (E:=msgE) hs) ?_
  refine Zre (.t U .n) (hS none 0) [0,0] 0 U U U U
 | some a=>
  refine Zen Tryz.func123 U U U fun e X Φ hS=>Zsr<|Zy U<|Znqs<|Zm U<|Zv (ysleq ⟨_,Tryz.underlying112⟩ U U)<|Znl ?_
  refine Znx<|Zcf U<|Zks ?_
  refine Ze (eb0' elMsg)<|fun B=>Zw<|Zm U ?_
  have hm:([]:List Msg).length+q.length≤maxLen:=ml_le (by simp;omega)
  refine Ze (eap' 0 1 elMsg U U U hR U U U (fun _ _=>U) (by simp;omega) hm)<|fun A' cap'=>Zw<|Zy U<|Znr ?_
  refine Zre (.t U .n) (hS A' cap') [0,0] 0 U U U U
theorem c79o (b cap n:Nat) (most:Int) (A:Option Addr) (h0:most≠0:=by assumption):Sp Tryz.prog 79 [pt b] [.blk b 191 [.slice A n cap,.int .i64 most]] fun K=>K (.returned (.bool false)) [.blk b 191 [.slice A n cap,.int .i64 most]]:=by
 refine Zen Tryz.func79 U U U fun e X Φ hS=>Zsr<|Zy U<|Zns<|Zm U<|Zv (ypeq U U U)<|Zm U<|Zg U U ?_
 refine Za 6 [1,0] U U ?_
 refine Zy U<|Znr<|Zre (.t U .n) hS [0] 0 ?_ U U U
 simp [pk,h0]
theorem c80 (b cap:Nat) (most:Int) (A:Option Addr) (q:List Msg) (hA:A=none→q=[]∧cap=0:=by assumption) (h0:most≠0:=by assumption) (hl:q.length≤1048576:=by assumption):Sp Tryz.prog 80 [pt b] [.blk b 191 [.slice A q.length cap,.int .i64 most],.hp (own msgE A cap q)] fun K=>∀ A' cap',K (.returned (.slice A' q.length cap')) [.hp (own msgE A' cap' q),.blk b 191 [.slice A q.length cap,.int .i64 most],.hp (own msgE A cap q)]:=by
 refine Zen Tryz.func80 U U U fun e X Φ hS=>Zsr<|Zy U<|Znqs<|Zm U ?_
 refine Zk (c79o b cap q.length most A) [0] U U<|Zq<|Zn<|Zcf U<|Zks<|Zb 2 U ?_
 refine Za 2 [0,0] U U ?_
 refine Zk (c123 _ A cap q own.rd hA hl) [1] U U<|fun A'=>fun cap'=>Zq<|Zy U<|Znr ?_
 refine Zre (.t U .n) (hS A' cap') [0,1,0] 0 U U U U
theorem pick_lt (pick:Int) {n:Nat} (h:0<n):Int.tmod (Int.tmod pick n+n) n=((pickAt pick n:Nat):Int)∧pickAt pick n<n ∧ -(n:Int)<Int.tmod pick n∧Int.tmod pick n<n:=by
 have h1 : -(n:Int)<Int.tmod pick n:=Int.lt_tmod_of_pos _ (by omega)
 have h2:Int.tmod pick n<n:=Int.tmod_lt_of_pos _ (by omega)
 have h3:0≤Int.tmod (Int.tmod pick n+n) n:=Int.tmod_nonneg _ (by omega)
 have h4:Int.tmod (Int.tmod pick n+n) n<n:=Int.tmod_lt_of_pos _ (by omega)
 unfold pickAt
 exact ⟨by omega,by omega,h1,h2⟩
def sendF (most:Int) (q:List Msg) (m:Msg):List Msg × Int:=if chk m≠0 then (q,chk m) else if most≤q.length then (q,210) else (q++[m],0)
theorem c183 (b:Nat) (most:Int) (q:List Msg) (m:Msg) (h0:most≠0:=by assumption) (hl:q.length≤1048576:=by assumption):Sp Tryz.prog 183 [pt b,.agg (msgE.arr m)] [.hp (netC b most q)] fun K=>K (.returned (.int .i64 (sendF most q m).2)) [.hp (netC b most (sendF most q m).1)]:=by
 refine Zen Tryz.func183 U U U fun e X Φ hS=>Zoc 0 net_op U<|fun A cap=>Zoc 1 own_len U<|fun hA hcp hcm=>Zsr<|Ze (ebxE U) fun b3=>Zw<|Zy U<|Znqs<|Zm U ?_
 refine Zk (c79o b cap q.length most A) [2] U U<|Zq<|Zn<|Zcf U<|Zkn<|Zsq<|Zsr<|Zv (ydw 1 (m:=20) U U (Enc.len ..)) ?_
 refine Zk (c190 ..) [] U U<|Zq<|Zy U<|Zns<|Zb 2 U<|Zn ?_
 refine Zif U (fun h11=>?_) (fun h11=>?_)
 refine Zsr<|Zb 2 U<|Znr<|Zr1 ?_
 rotate_left
 refine Zkn<|Zsq<|Zsq<|Zhd [] U U<|Zht 0 U (ym U)<|Zht 1 U (yn U)<|Zht 2 U (yf 0 U)<|Zht 3 U (yd 0 U U U)<|Zht 4 U (sl_of ⟨_,Tryz.underlying112⟩ U) ?_
 refine Zht 5 U (ym U)<|Zht 6 U (yn U)<|Zht 7 U (yf 1 U)<|Zht 8 U (yd 0 U U U)<|Zht 9 U (yge U U)<|ZHn<|Znx<|Zif U (fun h22=>?_) (fun h22=>?_)
 refine Zsr<|Zy U<|Znr<|Zr1 ?_
 rotate_left
 refine Zkn<|Zsq ?_
 rotate_left
 ·have e1:sendF most q m=(q,chk m):=if_pos h11
  rw [e1] at hS
  refine Zfx [0,1] (net_fold (b:=b) (q:=q) U) U<|Zre (.t U .n) hS [0] 1 U U U U
 ·have e1:sendF most q m=(q,210):=(if_neg h11).trans (if_pos h22)
  rw [e1] at hS
  refine Zfx [0,1] (net_fold (b:=b) (q:=q) U) U<|Zre (.t U .n) hS [0] 1 U U U U
 ·have e1:sendF most q m=(q++[m],0):=(if_neg h11).trans (if_neg h22)
  rw [e1] at hS
  refine Zhf 8 [2] U U<|Zht 0 U (ym U)<|Zht 1 U (ym U)<|Zht 2 U (yn U)<|Zht 3 U (yf 0 U)<|Zht 4 U (yd 0 U U U)<|Zht 5 U (ydw 1 (m:=20) U U (Enc.len ..)) ?_
  refine ZH1 6<|Zoe U (eb1 elMsg (by decide) U)<|fun B=>Zwh 2 U ?_
  have hm:q.length+[m].length≤maxLen:=by show q.length+1≤maxLen;exact Nat.le_trans (Nat.succ_le_succ hl) (by decide)
  refine ZH1 7<|Zoe U (eap' 1 0 elMsg U U U own.rd U U U (fun _ _=>U) (by simp;omega) hm)<|fun A' cap'=>Zwh 2 U<|ZHn<|Ztl U<|Ztv (yn U)<|Ztv (yf 0 U)<|Zte (es 2 U U U U U)<|Ztw<|Ztn<|Zxs<|Zy U ?_
  refine Znr ?_
  refine Zfx [2,1] (net_fold (b:=b) (q:=q++[m]) U) U<|Zre (.t U .n) hS [0] 2 U U U U
def delF (q:List Msg) (k:Nat):List Msg:=q.take k++q.drop (k+1)
theorem c141 (b:Nat) (most pick:Int) (q:List Msg) (h0:most≠0:=by assumption) (hl:q.length≤1048576:=by assumption) (hp : -9223372036854775808≤pick∧pick≤9223372036854775807):Sp Tryz.prog 141 [pt b,.int .i64 pick] [.hp (netC b most q)] fun K=>(q=[]→K (.returned (.tuple #[.agg (msgE.arr msg0),.bool false])) [.hp (netC b most [])])∧(∀ m,q[pickAt pick q.length]? = some m→K (.returned (.tuple #[.agg (msgE.arr m),.bool true])) [.hp (netC b most (delF q (pickAt pick q.length)))]):=by
 refine Zen Tryz.func141 U U U fun e X Φ hS=>Zsr<|Ze (eal z117) fun b4=>Zw<|Zy U<|Zns<|Zm U<|Zk (c117 ..) [1] U U<|Zq ?_
 refine Zy U<|Znqs<|Zb 2 U<|Zn<|Zif U (fun h12=>?_) (fun h12=>?_)
 refine Zsr<|Zv (yb l117 U)<|Ze (esw 1 (m:=20) U U U U U U U)<|Zw0<|Zy U<|Znr<|Zr1 ?_
 rotate_left
 refine Zks<|Zb 2 U<|Zv (yrem U U (by assumption) U)<|Zm U<|Zv (yadd U U U)<|Zm U<|Zv (yrem U U (by assumption) U) ?_
 refine Zy U<|Zns<|Za 3 [0] U U ?_
 rotate_left
 ·have hq:q=[]:=List.length_eq_zero_iff.1 (by omega)
  subst hq
  refine Zre (.wh 1 (m:=20) U U U (.t U .n)) (hS.1 U) [0] 1 U U U U
 ·have hn:(q.length:Int)≠0:=h12
  obtain ⟨p1,p2,p3,p4⟩:=pick_lt pick (n:=q.length) (by omega)
  have e1:IntKind.i64.wrap (pick.tmod q.length+q.length)=pick.tmod q.length+q.length:=i64w rfl (by omega)
  rw [e1,p1]
  refine Zol 0 net_op U<|fun A cap=>Zol 1 own_len U<|fun hA hcp hcm=>Zv (yd 1 U U U)<|Zm U<|Zv (yea 0 own.rd U U U (by first | assumption | omega) U Tryz.underlying112 U)<|Zv (yel 0 own.rd U (gE (by first | assumption | omega)) U U U)<|Ze (eal z117) fun b8=>Zw<|Ze (esw 0 (m:=20) U U U U U (Enc.len ..) (Enc.allL ..))<|Zw0<|Znq ?_
  refine Zhf 16 [1] U U<|Zht 0 U (ym U)<|Zht 1 U (ym U)<|Zht 2 U (yn U)<|Zht 3 U (yf 0 U)<|Zht 4 U (yd 1 U U U)<|Zht 5 U (ym U)<|Zht 6 U (ym U)<|Zht 8 U (ym U)<|Zht 9 U (yn U) ?_
  refine Zht 10 U (yf 0 U)<|Zht 11 U (yd 1 U U U)<|Zht 12 U (ym U)<|Zht 13 U (yadd U U (i64w U (by omega))) ?_
  refine Zht 7 U (yslp 20 Tryz.underlying112 U U U (by omega)) ?_
  refine Zht 14 U (ysld (j:=pickAt pick q.length+1) 20 Tryz.underlying112 U U (by omega)) ?_
  refine ZH1 15<|Zoe U (edel 0 (pickAt pick q.length) elMsg U U U p2 (fun _ _=>U) (by omega) (ml_le hl))<|fun A' cap'=>Zwh 1 U<|ZHn<|Ztl U<|Ztv (yn U)<|Ztv (yf 0 U)<|Zte (es 2 U U U U U)<|Ztw<|Ztn<|Zxs<|Zv (ydw 1 (m:=20) U U (Enc.len ..)) ?_
  refine Ze (esw 3 (m:=20) U U U U U (Enc.len ..) (Enc.allL ..))<|Zw0<|Zy U<|Znr ?_
  refine Zfx [2,0] (net_fold (b:=b) (q:=delF q (pickAt pick q.length)) (by unfold delF;simp;omega)) U ?_
  refine Zre (.wh 2 (m:=20) U U (Enc.len ..) (.t U .n)) (hS.2 _ (gE p2)) [0] 2 U U U U
theorem c259 (A:Option Addr) (cap k:Nat) (l:List Ln) (hk:k<l.length) (hcp:l.length≤cap) (hl:l.length≤1048576):Sp Tryz.prog 259 [.slice A l.length cap,.int .i64 (k:Int),.int .i64 ((k:Int)+1)] [.hp (own lnE A cap l)] fun K=>K (.returned (.slice A (l.length-1) cap)) [.hp (own lnE A cap (l.take k++l.drop (k+1)))]:=by
 refine Zen Tryz.func259 U U U fun e X Φ hS=>Zsr<|Zy U<|Zns<|Zb 4 U ?_
 refine Zv (sl_of ⟨_,Tryz.underlying79⟩ U) ?_
 refine Zv (yslf (i:=k) (j:=k+1) (m:=l.length) 18 Tryz.underlying79 U U U U (by omega) (by omega) (by omega) U U)<|Znqs<|Zb 3 U<|Zn ?_
 refine Zcf' U (dF (by omega))<|Zks<|Zm U<|Zv (sl_of ⟨_,Tryz.underlying79⟩ U)<|Zy U<|Znq ?_
 refine Zhd [0] U U<|Zht 0 U (ym U)<|Zht 1 U (ym U)<|Zht 3 U (ym U)<|Zht 4 U (ym U) ?_
 refine Zht 2 U (yslt (j:=k) 18 Tryz.underlying79 U U (by omega)) ?_
 refine Zht 5 U (ysld (j:=k+1) 18 Tryz.underlying79 U U (by omega)) ?_
 refine ZH1 6<|Zoe U (edeli 0 k elLn U U U hk U)<|Zwh 1 U<|Zht 7 U (ya U)<|ZHn<|Zxs<|Zb 2 U<|Zv (sl_of ⟨_,Tryz.underlying79⟩ U)<|Zm U ?_
 refine Zv (yslm (i:=l.length-1) (j:=l.length) 18 Tryz.underlying79 U U U (by omega) (by omega)) ?_
 have hlen:(l.take k++l.drop (k+1)).length=l.length-1:=by simp;omega
 refine Ze (eclr 0 elLn (z := .agg (lnE.arr ln0)) (by kernel_rfl) (lnE.size _) (lnE.all _) U U (by omega) (by omega))<|fun v=>Zw0<|Zns<|Zb 2 U<|Znr<|Zre (.t U .n) hS [0] 0 U U U U
theorem c233 (b n:Nat) (ways num:Int) (L:List Ln) (hw:ways≠0) (hn:0≤num∧num<4294967296) (hu:Uniq L) (hl:L.length≤1048576):Sp Tryz.prog 233 [pt b,.int .u32 num] [.hp (linesC b n ways L)] fun K=>K (.returned (.bool (getN L num).isSome)) [.hp (linesC b n ways (dropL L num))]:=by
 refine Zen Tryz.func233 U U U fun e X Φ hS=>Zoc 0 (lines_op (si n num) si_lt) U<|fun h0 h64 hi g cells A cap R hc hcl hB=>Zsr<|Zy U<|Znqs<|Zm U<|Zk (c124 ..) [0] U U<|Zq ?_
 refine Zn<|Zcf U<|Zks<|Zb 2 U ?_
 have hlo:(ofs n L (si n num)).length≤1048576:=Nat.le_trans (ofs_le L) hl
 have hg:=ofs_get (n:=n) L num
 rcases fnd_spec (ofs n L (si n num)) num with ⟨hf,hall⟩ | ⟨k,hf,hk,hx,hall⟩
 ·have h2:=(hg.symm.trans (fnd_none ⟨hf,hall⟩))
  have hd:dropL L num=L:=rem_no (get_none h2)
  rw [hd,h2] at hS
  refine Zk (c202 b n g cap ways num L cells A h0 h64 hn hlo hc hcl) [0,0,0] U U<|Zq<|Zb 5 U<|Znq ?_
  refine Zsr<|Zb 2 U<|Zn<|Zct' U (dT (by omega))<|Zsr<|Zy U<|Zn ?_
  refine Zrt<|Zr1 ?_
  refine Zfx [0,0,0,0] (hB.same hc) U<|Zre (.t U .n) hS [0] 0 U U U U
 ·have h2:=hg.symm.trans (get_at hk hx hall)
  rw [h2] at hS
  refine Zk (c202 b n g cap ways num L cells A h0 h64 hn hlo hc hcl) [0,0,0] U U<|Zq<|Zb 5 U<|Znq ?_
  refine Zsr<|Zb 2 U<|Zn<|Zcf' U (dF (by omega))<|Zks<|Zm U ?_
  refine Zb 2 U<|Zv (yd 1 U U hc)<|Zb 2 U<|Zv (yadd U U (i64w U (by omega))) ?_
  rw [hf]
  refine Zol 2 own_len U<|fun hA hcp hcm=>?_
  refine Zk (c259 A cap k (ofs n L (si n num)) hk hcp hlo) [0] U U<|Zq<|Zv (yn U) ?_
  have er:(ofs n L (si n num)).take k++(ofs n L (si n num)).drop (k+1)=ofs n (dropL L num) (si n num):=by
   rw [rem_at hk hx hall,remf_uniq (hu.ofs _),ofs_drop]
  have el:(ofs n L (si n num)).length-1=(ofs n (dropL L num) (si n num)).length:=by
   rw [← er]
   simp
   omega
  rw [er,el]
  obtain ⟨cells',hput⟩:∃ cells',put cells (si n num) (.slice A (ofs n (dropL L num) (si n num)).length cap)=some cells':=⟨_,put_set _ _ _ (by omega)⟩
  refine Ze (es 2 U U U hput U)<|Zw0<|Zns<|Zy U<|Znr ?_
  refine Zfx [1,1,0,0] (hB (dropL L num) A cap cells' (fun j _ hne=>ofs_drop_other L num hne) hput) U<|Zre (.t U .n) hS [0] 0 U U U U
theorem c254 (b n:Nat) (ways num pick:Int) (L:List Ln) (hw1:1≤ways) (hn:0≤num∧num<4294967296) (hp : -9223372036854775808≤pick∧pick≤9223372036854775807) (hl:L.length≤1048576):Sp Tryz.prog 254 [pt b,.int .u32 num,.int .i64 pick] [.hp (linesC b n ways L)] fun K=>(∀ x,vicL n ways L num pick=some x→K (.returned (.tuple #[.agg (lnE.arr x),.bool true])) [.hp (linesC b n ways L)])∧(vicL n ways L num pick=none→K (.returned (.tuple #[.agg (lnE.arr ln0),.bool false])) [.hp (linesC b n ways L)]):=by
 have hw:ways≠0:=by omega
 refine Zen Tryz.func254 U U U fun e X Φ hS=>Zoc 0 (lines_op (si n num) si_lt) U<|fun h0 h64 hi g cells A cap R hc hcl hB=>Zsr<|Ze (eal z145) fun b6=>Zw<|Zy U<|Znqs<|Zm U<|Zk (c124 ..) [1] U U ?_
 refine Zq<|Zn<|Zcf U<|Zks<|Zb 2 U ?_
 have hlo:(ofs n L (si n num)).length≤1048576:=Nat.le_trans (ofs_le L) hl
 have hg:=ofs_get (n:=n) L num
 have hfs:=fnd_spec (ofs n L (si n num)) num
 refine Zk (c202 b n g cap ways num L cells A h0 h64 hn hlo hc hcl) [0,1,1] U U<|Zq<|Zb 5 U<|Zns ?_
 refine Zb 2 U<|Zv (yd 1 U U hc)<|Zv (sl_of ⟨_,Tryz.underlying79⟩ U)<|Zy U<|Znqs<|Zm U ?_
 refine Zb 2 U<|Zgs U U (fun h25=>?_) (fun h25=>?_)
 refine Zu' U U (dT h25) U<|Zu' U U (dT h25) U<|Zu' U U (dT h25) U<|Zu' U U (dT h25) U<|Zu' U U (dT h25) U<|Zu' U U (dT h25) U<|Zv (ypt' U (dT h25) U)<|Zn<|Zct U ?_
 refine Zrt<|Zr1 ?_
 rotate_left
 refine Zg' U U (dF h25)<|Zm U<|Zg' U U (dF h25)<|Zm U<|Zg' U U (dF h25)<|Zv (yn U)<|Zg' U U (dF h25)<|Zv (yf 1 U)<|Zg' U U (dF h25)<|Zv (yd 0 U U U) ?_
 refine Zg' U U (dF h25)<|Zv (ylt U U)<|Zv (ypf' U (dF h25) U)<|Zn<|Zif U (fun h32=>?_) (fun h32=>?_)
 refine Zrt<|Zr1 ?_
 rotate_left
 refine Zkn<|Zsq<|Zhe 12 U<|Zht 0 U (ym U)<|Zht 1 U (yn U)<|Zht 2 U (yd 1 U U hc)<|Zht 3 U (ym U)<|Zht 4 U (ym U)<|Zht 5 U (yrem U U (by omega) U) ?_
 refine Zht 6 U (ym U)<|Zht 7 U (yadd U U U)<|Zht 8 U (ym U)<|Zht 9 U (yrem U U (by omega) U) ?_
 rotate_left
 ·have hv:vicL n ways L num pick=none:=by
   rcases hfs with ⟨hf,_⟩ | ⟨k,hf,hk,hx,hall⟩
   ·omega
   ·exact if_neg fun h=>by rw [← hg,get_at hk hx hall] at h;cases h.1
  refine Zfx [0,0,0,1] (hB.same hc) U ?_
  refine Zre (.wh 1 (m:=18) U U U (.t U .n)) (hS.2 hv) [0] 1 U U U U
 ·have hv:vicL n ways L num pick=none:=if_neg fun h=>by omega
  refine Zfx [0,0,0,1] (hB.same hc) U ?_
  refine Zre (.wh 1 (m:=18) U U U (.t U .n)) (hS.2 hv) [0] 1 U U U U
 ·have hno:getN L num=none:=by
   rcases hfs with ⟨hf,hall⟩ | ⟨k,hf,hk,hx,hall⟩
   ·exact hg.symm.trans (fnd_none ⟨hf,hall⟩)
   ·omega
  have hlp:0<(ofs n L (si n num)).length:=by omega
  have hv:vicL n ways L num pick=some ((ofs n L (si n num)).getD (pickAt pick (ofs n L (si n num)).length) ln0):=if_pos ⟨hno,by omega⟩
  obtain ⟨p1,p2,p3,p4⟩:=pick_lt pick hlp
  have e1:IntKind.i64.wrap (pick.tmod (ofs n L (si n num)).length+(ofs n L (si n num)).length)=pick.tmod (ofs n L (si n num)).length+(ofs n L (si n num)).length:=i64w rfl (by omega)
  have e2:(ofs n L (si n num)).getD (pickAt pick (ofs n L (si n num)).length) ln0=(ofs n L (si n num))[pickAt pick (ofs n L (si n num)).length]:=by simp [List.getD,p2]
  rw [e2] at hv
  rw [e1,p1]
  refine Zht 10 U (yea 2 own.rd U U U (by first | assumption | omega) U Tryz.underlying79 U)<|Zht 11 U (yel 2 own.rd U (gE (by first | assumption | omega)) U U U)<|ZHn<|Ztl U<|Zte (esw 3 (m:=18) U U U U U (Enc.len ..) (Enc.allL ..))<|Ztw<|Ztv (ya U)<|Ztn<|Zxr ?_
  refine Zfx [0,0,0,1] (hB.same hc) U ?_
  refine Zre (.wh 1 (m:=18) U U (Enc.len ..) (.t U .n)) (hS.1 _ hv) [0] 1 U U U U
theorem sep_nils (m:Nat) {h:Hl}:Sep [] h→Sep ((List.replicate m (⟨none,0,[]⟩:Row)).map rowC) h:=fun hs=>by
 induction m with
 | zero=>exact hs
 | succ m ih=>exact sep_nil (E:=lnE) ih
theorem lines_new {b g n:Nat} {ways:Int} (h0:0<n) (h64:n≤64):∀ h,Sep [.blk b 224 [.slice (some ⟨g,0,none⟩) n n,.int .i64 ways],.blk g 79 (List.replicate n (.slice none 0 0))] h→linesC b n ways [] h:=fun h hs=>
 ⟨h0,h64,g,List.replicate n ⟨none,0,[]⟩,by simp,fun j r hj=>by
  have:=List.getElem?_eq_some_iff.1 hj
  obtain ⟨hlt,he⟩:=this
  rw [List.getElem_replicate] at he
  rw [← he]
  rfl,by
  rw [List.map_replicate]
  exact hs.mapTl fun h hs=>hs.mapTl fun h hs=>by
   have:=sep_nils n (h:=h) hs
   exact this⟩
theorem c122 (n:Nat) (ways:Int):Sp Tryz.prog 122 [.int .i64 (n:Int),.int .i64 ways] [] fun K=>(rightB n ways=true→∀ b,K (.returned (.tuple #[pt b,.int .i64 0])) [.hp (linesC b n ways [])])∧(rightB n ways=false→K (.returned (.tuple #[.pointer none,.int .i64 2])) []):=by
 cases hr:rightB n ways with
 | true=>
  obtain ⟨r1,r2,r3,r4,r5⟩:=right_yes hr
  have r3':¬ IntKind.i64.wrap (BitVec.ofInt IntKind.i64.bits (n:Int) &&& BitVec.ofInt IntKind.i64.bits ((n:Int)-1)).toNat≠0:=r3
  refine Zen Tryz.func122 U U U fun e X Φ hS=>Zsr<|Zb 2 U<|Znqs<|Zb 2 U ?_
  refine Zm U<|Zg' U U (dF r1)<|Zm U<|Zg' U U (dF r1)<|Zv (ygt U U)<|Zv (ypf' U (dF r1) U)<|Zm U<|Zg' U U (dF r2)<|Zm U<|Zg' U U (dF r2) ?_
  refine Zm U<|Zg' U U (dF r2)<|Zv (ysub U U (i64w U (by omega)))<|Zg' U U (dF r2)<|Zv (yand U U U)<|Zg' U U (dF r2)<|Zv (yne U U)<|Zv (ypf' U (dF r2) U)<|Zm U<|Zg' U U (dF r3') ?_
  refine Zm U<|Zg' U U (dF r3')<|Zv (ylt U U)<|Zv (ypf' U (dF r3') U)<|Zm U<|Zg' U U (dF r4)<|Zm U<|Zg' U U (dF r4)<|Zv (ygt U U)<|Zv (ypf' U (dF r4) U) ?_
  refine Zn<|Zcf' U (dF r5)<|Zks<|Zm U ?_
  refine Ze (emkb (bytes:=24) (zv := .slice none 0 0) Tryz.underlying222 U U U (by omega) (ml_le (by omega)))<|fun g=>Zw<|Zm U<|Zv (yb l224 U)<|Ze (ebx U) fun b31=>Zw<|Zb 2 U<|Znr ?_
  refine Zfx [0,0] (lines_new (b:=b31) (by omega) (by omega)) U ?_
  refine Zre (.t U (.t U .n)) (hS.1 U b31) [0] 0 U U U U
 | false=>
  refine Zen Tryz.func122 U U U fun e X Φ hS=>Zsr<|Zb 2 U<|Znqs<|Zb 2 U ?_
  refine Zm U<|Zgs U U (fun h8=>?_) (fun h8=>?_)
  refine Zu' U U (dT h8) U<|Zu' U U (dT h8) U<|Zv (ypt' U (dT h8) U)<|Zb 7 U ?_
  refine Zb 8 U<|Zn ?_
  refine Zct U<|Zsr<|Zb 2 U<|Znr<|Zr1 ?_
  rotate_left
  refine Zg' U U (dF h8)<|Zm U<|Zg' U U (dF h8)<|Zv (ygt U U)<|Zv (ypf' U (dF h8) U)<|Zm U<|Zgs U U (fun h12=>?_) (fun h12=>?_)
  refine Zu' U U (dT h12) U<|Zu' U U (dT h12) U<|Zu' U U (dT h12) U<|Zu' U U (dT h12) U<|Zu' U U (dT h12) U<|Zv (ypt' U (dT h12) U)<|Zb 4 U ?_
  refine Zb 4 U<|Zn<|Zct U<|Zsr<|Zb 2 U ?_
  refine Znr<|Zr1 ?_
  rotate_left
  refine Zg' U U (dF h12)<|Zm U<|Zg' U U (dF h12)<|Zm U<|Zg' U U (dF h12)<|Zv (ysub U U (i64w U (by omega)))<|Zg' U U (dF h12)<|Zv (yand U U U)<|Zg' U U (dF h12)<|Zv (yne U U) ?_
  refine Zv (ypf' U (dF h12) U)<|Zm U<|Zgs U U (fun h19=>?_) (fun h19=>?_)
  refine Zu' U U (dT h19) U<|Zu' U U (dT h19) U<|Zv (ypt' U (dT h19) U)<|Zb 4 U<|Zn<|Zct U ?_
  refine Zsr<|Zb 2 U<|Znr<|Zr1 ?_
  rotate_left
  refine Zg' U U (dF h19)<|Zm U<|Zg' U U (dF h19)<|Zv (ylt U U)<|Zv (ypf' U (dF h19) U)<|Zm U<|Zgs U U (fun h23=>?_) (fun h23=>?_)
  refine Zu' U U (dT h23) U<|Zu' U U (dT h23) U<|Zv (ypt' U (dT h23) U)<|Zn<|Zct U<|Zsr<|Zb 2 U<|Znl ?_
  refine Zxr<|Zr1 ?_
  rotate_left
  refine Zg' U U (dF h23)<|Zm U<|Zg' U U (dF h23)<|Zv (ygt U U)<|Zv (ypf' U (dF h23) U)<|Zn<|Zif U (fun h26=>?_) (fun h26=>?_)
  refine Zsr<|Zb 2 U<|Znr<|Zr1 ?_
  rotate_left
  refine Zks<|Zm U ?_
  rotate_left
  ·refine Zre (.t U (.t U .n)) (hS.2 U) [] 0 U U U U
  ·refine Zre (.t U (.t U .n)) (hS.2 U) [] 0 U U U U
  ·refine Zre (.t U (.t U .n)) (hS.2 U) [] 0 U U U U
  ·refine Zre (.t U (.t U .n)) (hS.2 U) [] 0 U U U U
  ·refine Zre (.t U (.t U .n)) (hS.2 U) [] 0 U U U U
  ·exact (right_no hr (by assumption) (by assumption) (by assumption) (by assumption) (by assumption)).elim
theorem c125 (c:Ck) (A:Option Addr) (cap:Nat) (q:List Ln) (hR:Rd lnE c A cap q) (hA:A=none→q=[]∧cap=0) (hl:q.length≤1048576):Sp Tryz.prog 125 [.slice A q.length cap] [c] fun K=>∀ A' cap',K (.returned (.slice A' q.length cap')) [.hp (own lnE A' cap' q),c]:=by
 cases A with
 | none=>
  obtain ⟨rfl,rfl⟩:=hA rfl
  refine Zen Tryz.func125 U U U fun e X Φ hS=>Zsr<|Zy U<|Znqs<|Zm U<|Zv (ysleq ⟨_,Tryz.underlying79⟩ U U)<|Znl ?_
  refine Znx<|Zct U<|Zsr<|Zy U<|Znr<|Zr1 ?_
  refine Zix (fun _ hs=>sep_nil (E:=lnE) hs) ?_
  refine Zre (.t U .n) (hS none 0) [0,0] 0 U U U U
 | some a=>
  refine Zen Tryz.func125 U U U fun e X Φ hS=>Zsr<|Zy U<|Znqs<|Zm U<|Zv (ysleq ⟨_,Tryz.underlying79⟩ U U)<|Znl ?_
  refine Znx<|Zcf U<|Zks ?_
  refine Ze (eb0' elLn)<|fun B=>Zw<|Zm U ?_
  have hm:([]:List Ln).length+q.length≤maxLen:=ml_le (by simp;omega)
  refine Ze (eap' 0 1 elLn U U U hR U U U (fun _ _=>U) (by simp;omega) hm)<|fun A' cap'=>Zw<|Zy U<|Znr ?_
  refine Zre (.t U .n) (hS A' cap') [0,0] 0 U U U U
def linesG (b g n:Nat) (ways:Int) (L:List Ln):HP:=fun h=>0<n∧n≤64∧∃ (rs:List Row),rs.length=n∧(∀ j r,rs[j]? = some r→r.l=ofs n L j)∧Sep (.blk b 224 [.slice (some ⟨g,0,none⟩) n n,.int .i64 ways] :: .blk g 79 (rs.map Row.val)::rs.map rowC) h
theorem lines_g {b n:Nat} {ways:Int} {L:List Ln}:Op_ (linesC b n ways L) fun K=>0<n→n≤64→∀ g,K [.hp (linesG b g n ways L)] := .mk fun G k h hh=>by
 obtain ⟨hn,hn64,g,rs,hl,hr,hs⟩:=hh
 exact ⟨_,k hn hn64 g,sep_hp1 ⟨hn,hn64,rs,hl,hr,hs⟩⟩
theorem lines_ug {b g n:Nat} {ways:Int} {L:List Ln}:∀ h,Sep [.hp (linesG b g n ways L)] h→linesC b n ways L h:=fun h hs=>by
 obtain ⟨h1,_,e1,_,_,⟨hn,hn64,rs,hl,hr,hs⟩,_⟩:=hs
 exact ⟨hn,hn64,g,rs,hl,hr,hs.up e1⟩
def BkG (b n i:Nat) (ways:Int) (L:List Ln) (g:Nat) (cells:List Value) (R:HP):Prop:=∀ L' A' cap' cells',(∀ j,j<n→j≠i→ofs n L' j=ofs n L j)→put cells i (.slice A' (ofs n L' i).length cap')=some cells'→∀ h,Sep [.blk b 224 [.slice (some ⟨g,0,none⟩) n n,.int .i64 ways],.blk g 79 cells',.hp (own lnE A' cap' (ofs n L' i)),.hp R] h→linesG b g n ways L' h
theorem linesG_op {b g n:Nat} {ways:Int} {L:List Ln} (i:Nat) (hi:i<n):Op_ (linesG b g n ways L) fun K=>∀ cells A cap R,nth cells i=some (.slice A (ofs n L i).length cap)→cells.length=n→BkG b n i ways L g cells R→K [.blk b 224 [.slice (some ⟨g,0,none⟩) n n,.int .i64 ways],.blk g 79 cells,.hp (own lnE A cap (ofs n L i)),.hp R] := .mk fun G k h hh=>by
 obtain ⟨hn,hn64,rs,hl,hr,hs⟩:=hh
 have hir:i<rs.length:=by omega
 have hri:rs[i]? = some rs[i]:=gE hir
 have hri':=hr i _ hri
 have h1:=nth_map rowC hri
 obtain ⟨M,hM,_⟩:=Sep.at_ h1 (put_map rowC rs[i] hir)
 have hk:=k (rs.map Row.val) rs[i].A rs[i].cap (Sep M) (by
  have:=nth_map Row.val hri
  rw [this]
  unfold Row.val
  rw [hri']) (by simpa using hl) (by
  intro L' A' cap' cells' ho hp h hs'
  have hp':=put_map Row.val (⟨A',cap',ofs n L' i⟩:Row) hir
  rw [show Row.val ⟨A',cap',ofs n L' i⟩ = .slice A' (ofs n L' i).length cap' from rfl] at hp'
  have:=hp.symm.trans hp'
  cases this
  obtain ⟨M',hM',hback⟩:=Sep.at_ h1 (put_map rowC (⟨A',cap',ofs n L' i⟩:Row) hir)
  have:M'=M:=by
   rw [hM] at hM'
   cases hM'
   rfl
  subst this
  refine ⟨hn,hn64,rs.set i ⟨A',cap',ofs n L' i⟩,by simpa using hl,?_,?_⟩
  ·intro j r hj
   by_cases hji:j=i
   ·subst hji
    rw [List.getElem?_set_self hir] at hj
    cases hj
    rfl
   ·rw [List.getElem?_set_ne (Ne.symm hji)] at hj
    have hjn:j<n:=by
     have:=(List.getElem?_eq_some_iff.1 hj).1
     omega
    rw [ho j hjn hji]
    exact hr j r hj
  ·refine hs'.mapTl fun h hs=>hs.mapTl fun h hs=>hback h ?_
   refine hs.mapTl fun h hs=>?_
   have:=Sep.flat hs
   simpa using this)
 refine ⟨_,hk,?_⟩
 refine hs.mapTl fun h hs=>hs.mapTl fun h hs=>?_
 have:=Sep.pick hM hs
 refine Sep.hd (p:=rowC rs[i]) ?_ fun h hh=>?_
 ·refine this.mapTl fun h hs=>?_
  have hs2:Sep (M++[]) h:=by simpa using hs
  exact hs2.unflat
 ·show own lnE rs[i].A rs[i].cap (ofs n L i) h
  rw [← hri']
  exact hh
theorem BkG.same {b n i g:Nat} {ways:Int} {L:List Ln} {cells:List Value} {R:HP} {A:Option Addr} {cap:Nat} (h:BkG b n i ways L g cells R) (hc:nth cells i=some (.slice A (ofs n L i).length cap)):∀ h,Sep [.blk b 224 [.slice (some ⟨g,0,none⟩) n n,.int .i64 ways],.blk g 79 cells,.hp (own lnE A cap (ofs n L i)),.hp R] h→linesG b g n ways L h:=h L A cap cells (fun _ _ _=>rfl) (put_same hc)
theorem linesG_new {b g n:Nat} {ways:Int} (h0:0<n) (h64:n≤64):∀ h,Sep [.blk b 224 [.slice (some ⟨g,0,none⟩) n n,.int .i64 ways],.blk g 79 (List.replicate n (.slice none 0 0))] h→linesG b g n ways [] h:=fun h hs=>
 ⟨h0,h64,List.replicate n ⟨none,0,[]⟩,by simp,fun j r hj=>by
  have:=List.getElem?_eq_some_iff.1 hj
  obtain ⟨hlt,he⟩:=this
  rw [List.getElem_replicate] at he
  rw [← he]
  rfl,by
  rw [List.map_replicate]
  exact hs.mapTl fun h hs=>hs.mapTl fun h hs=>by
   have:=sep_nils n (h:=h) hs
   exact this⟩
def upto (n j:Nat) (L:List Ln):List Ln:=L.filter fun x=>decide (si n x.num<j)
theorem upto_zero (n:Nat) (L:List Ln):upto n 0 L=[]:=List.filter_eq_nil_iff.2 fun x _=>by simp
theorem upto_all {n:Nat} (h:0<n) (L:List Ln):upto n n L=L:=List.filter_eq_self.2 fun x _=>by simpa using si_lt h
theorem ofs_upto (n j i:Nat) (L:List Ln):ofs n (upto n j L) i=if i<j then ofs n L i else []:=by
 unfold ofs upto
 rw [List.filter_filter]
 split
 ·rename_i h
  congr 1
  funext x
  unfold inSet
  by_cases hx:si n x.num=i
  ·simp [hx,h]
  ·simp [hx]
 ·rename_i h
  refine List.filter_eq_nil_iff.2 fun x _=>?_
  unfold inSet
  simp
  omega
theorem c84 (b n:Nat) (ways:Int) (L:List Ln) (hw:ways≠0) (hl:L.length≤1048576):Sp Tryz.prog 84 [pt b] [.hp (linesC b n ways L)] fun K=>∀ b',K (.returned (pt b')) [.hp (linesC b' n ways L),.hp (linesC b n ways L)]:=by
 refine Zen Tryz.func84 U U U fun e X Φ hS=>Zoc 0 lines_g U<|fun h0 h64 g=>Zoc 0 (linesG_op 0 h0) U<|fun cells A cap R hc hcl hB=>Zsr<|Zy U<|Znqs<|Zm U<|Zk (c124 ..) [0] U U<|Zq ?_
 refine Zn<|Zcf U<|Zkn<|Zsq<|Zhd [] U U<|Zht 0 U (ym U)<|Zht 1 U (yn U)<|Zht 2 U (yf 0 U) ?_
 refine Zht 3 U (yd 0 U U U)<|Zht 4 U (sl_of ⟨_,Tryz.underlying222⟩ U)<|Zht 6 U (ym U)<|Zht 7 U (yn U)<|Zht 8 U (yf 1 U)<|Zht 9 U (yd 0 U U U) ?_
 refine ZH1 5<|Zoe U (emkb (bytes:=24) (zv := .slice none 0 0) Tryz.underlying222 U U U (by omega) (ml_le (by omega)))<|fun g2=>Zwh 1 U<|Zht 10 U (yb l224 U)<|ZH1 11<|Zoe U (ebx U) fun b19=>Zwh 2 U<|Zht 12 U (ya U)<|ZHn<|Zxq<|Zsr<|Zb 2 U ?_
 refine Za 2 [0,2] U U<|Zv (sl_of ⟨_,Tryz.underlying222⟩ U)<|Zm U<|Znb ?_
 refine Zfc [0,0] (linesG_new (b:=b19) h0 h64) U ?_
 refine Zfc [1,1,1,1] (hB.same hc) U ?_
 have hlo:∀ j,(ofs n L j).length≤1048576:=fun j=>Nat.le_trans (ofs_le L) hl
 refine Zlq (ι:={ i:Nat // i≤n }) (fun i=>[(25,.int .i64 (i.1:Int)),(24,.int .i64 (n:Int)),(23,.slice (some ⟨g,0,none⟩) n n),(3,pt b19)]) (fun i=>[.hp (linesG b19 g2 n ways (upto n i.1 L)),.hp (linesG b g n ways L)]) (fun i=>n-i.1) ⟨0,by omega⟩ ⟨U,U,U,U,trivial⟩ [1,0] (by rw [upto_zero];rfl) fun i=>Zsr<|Zv (ylt U U)<|Znq<|Zif U (fun h26=>?_) (fun h26=>?_)
 refine Zkn<|Zsq<|Zbl<|Zsr<|Zm U ?_
 rotate_left
 refine Zex<|Zxt<|Zxt<|Zxx<|Zxs<|Zb 2 U<|Zn ?_
 refine Zrt ?_
 rotate_left
 ·have hlt:i.1<n:=by omega
  refine Zol 1 (linesG_op i.1 hlt) U<|fun cells1 A1 cap1 R1 hc1 hcl1 hB1=>Zv (yeb (s:=1) (j:=i.1) i.1 Tryz.underlying222 U U hlt (by omega))<|Zv (yd 1 U U hc1)<|Zb 2 U<|Zn ?_
  refine Zoc 2 own_len U<|fun hA1 hcp1 hcm1=>Zoc 4 (linesG_op i.1 hlt) U<|fun cells2 A2 cap2 R2 hc2 hcl2 hB2=>?_
  refine Zhf 8 [4,1] U U<|Zht 0 U (ym U)<|Zht 1 U (yn U)<|Zht 2 U (yf 0 U)<|Zht 3 U (yd 0 U U U)<|Zht 4 U (ym U)<|Zht 5 U (ym U) ?_
  refine ZH1 6<|Zok (c125 _ A1 cap1 (ofs n L i.1) own.rd hA1 (hlo i.1)) [0] U U U<|fun A'=>fun cap'=>Zqh 3 U ?_
  refine Zht 7 U (yeb (s:=1) (j:=i.1) i.1 Tryz.underlying222 U U hlt (by omega))<|ZHn<|Ztl U ?_
  have e1:(ofs n L i.1)=ofs n (upto n (i.1+1) L) i.1:=by rw [ofs_upto,if_pos (by omega)]
  obtain ⟨cells3,hput⟩:∃ cells3,put cells2 i.1 (.slice A' (ofs n L i.1).length cap')=some cells3:=⟨_,put_set _ _ _ (by omega)⟩
  refine Zte (es 2 U U U hput U)<|Ztw<|Ztn<|Zxn<|Znx<|Zrg<|Zv (yadd U U (i64w U (by omega)))<|Zm U<|Znl ?_
  refine Zfx [6,6,1,5] (hB1.same hc1) U ?_
  rw [e1] at hput
  have hf:=hB2 (upto n (i.1+1) L) A' cap' cells3 (fun j _ hj=>by rw [ofs_upto,ofs_upto];split <;> split <;> first | rfl | omega) hput
  rw [← e1] at hf
  refine Zfx [3,2,1,2] hf U ?_
  refine Zlr ⟨i.1+1,by omega⟩ (by show n-(i.1+1)<n-i.1;omega) ⟨U,U,U,U,trivial⟩ [0,0] 1 U U
 ·have hi:=i.2
  rw [show i.1=n by omega,upto_all h0]
  refine Zfx [0] (lines_ug (b:=b19) (g:=g2)) U ?_
  refine Zfx [1] (lines_ug (b:=b) (g:=g)) U ?_
  refine Zre (.t U .n) (hS b19) [1,0] 0 U U U U
theorem c61 (b n:Nat) (ways:Int) (L:List Ln) (hw:ways≠0) (hl:L.length≤1048576):Sp Tryz.prog 61 [pt b] [.hp (linesC b n ways L)] fun K=>∀ b1 b',K (.returned (.func (.func 107) #[] #[pt b1])) [.blk b1 151 [pt b'],.hp (linesC b' n ways L),.hp (linesC b n ways L)]:=by
 refine Zen Tryz.func61 U U U fun e X Φ hS=>Zsr<|Ze (ebx U) fun b1=>Zw<|Zy U<|Zns<|Zv (yd 0 U U U) ?_
 refine Zk (c84 b n ways L hw hl) [1] U U<|fun b'=>Zq<|Ze (es 2 U U U U U)<|Zw0<|Zns<|Zv (yfn U U)<|Zy U<|Znl ?_
 refine Zxr ?_
 refine Zre (.t U .n) (hS b1 b') [2,0,0] 0 U U U U
def allU (n i k:Nat) (L:List Ln):List Ln:=(List.range i).flatMap (ofs n L)++(ofs n L i).take k
theorem allU_zero (n:Nat) (L:List Ln):allU n 0 0 L=[]:=by simp [allU]
theorem allU_next {n i k:Nat} {L:List Ln} {x:Ln} (h:(ofs n L i)[k]? = some x):allU n i k L++[x]=allU n i (k+1) L:=by
 unfold allU
 rw [List.append_assoc,take_snc h]
theorem allU_row {n i:Nat} {L:List Ln}:allU n i (ofs n L i).length L=allU n (i+1) 0 L:=by
 unfold allU
 rw [List.take_of_length_le (Nat.le_refl _),List.range_succ,List.flatMap_append]
 simp
theorem allU_all (n:Nat) (L:List Ln):allU n n 0 L=allL n L:=by simp [allU,allL]
theorem allU_pre {n i k:Nat} {L:List Ln} (hi:i<n) (_hk:k≤(ofs n L i).length):allU n i k L <+: allL n L:=by
 unfold allU allL
 have e:List.range n=List.range i++(i::(List.range (n-i-1)).map (· + (i+1))):=by
  rw [show n=i+((n-i-1)+1) by omega,List.range_add]
  congr 1
  rw [show i+(n-i-1+1)-i-1=n-i-1 by omega,List.range_succ_eq_map,List.map_cons,List.map_map]
  congr 1
  apply List.map_congr_left
  intro a _
  simp
  omega
 rw [e,List.flatMap_append,List.flatMap_cons]
 rw [List.prefix_append_right_inj]
 exact (List.take_prefix _ _).trans (List.prefix_append _ _)
theorem q107 (b b1 n:Nat) (ways:Int) (L:List Ln) (hl:L.length≤1048576):Sq Tryz.prog 107 [pt b1] [.hp (linesC b n ways L),.blk b1 151 [pt b]] (fun _=>[]) (fun x=>[.agg (lnE.arr x)]) (allL n L):=by
 refine ⟨fun y J Jx hYd=>?_⟩
 have hlo:∀ j,(ofs n L j).length≤1048576:=fun j=>Nat.le_trans (ofs_le L) hl
 refine Zen Tryz.func107 U U U fun e X Φ hS=>Zoc 1 lines_g U<|fun h0 h64 g=>Zoc 0 (linesG_op 0 h0) U<|fun cells A cap R hc hcl hB=>Zscp<|Zsq<|Zsr<|Zv (yd 5 U U U)<|Zv (ypeq U U U)<|Zn<|Zcf U<|Zsk ?_
 refine Zxq<|Zlb<|Zxs<|Za 4 [5,0,0] U U<|Zv (sl_of ⟨_,Tryz.underlying222⟩ U) ?_
 refine Zm U<|Znb ?_
 refine Zfc [0,0,0,0] (hB.same hc) U ?_
 refine Zlq (ι:={ i:Nat // i≤n }) (fun i=>[(14,.int .i64 (i.1:Int)),(13,.int .i64 (n:Int)),(12,.slice (some ⟨g,0,none⟩) n n),(0,.func (.yield y) #[] #[])]) (fun i=>[.hp (linesG b g n ways L),.hp (J (allU n i.1 0 L))]) (fun i=>n-i.1) ⟨0,by omega⟩ ⟨U,U,U,U,trivial⟩ [0,0] (by rw [allU_zero];rfl) fun i=>Zsr<|Zv (ylt U U)<|Znq<|Zif U (fun h15=>?_) (fun h15=>?_)
 refine Zkn<|Zsq<|Zbl<|Zsr ?_
 rotate_left
 refine Zex<|Zxt<|Zxt<|Zxx<|Zgn<|Zee ?_
 rotate_left
 ·have hlt:i.1<n:=by omega
  have hlo':=hlo i.1
  refine Zol 0 (linesG_op i.1 hlt) U<|fun cells1 A1 cap1 R1 hc1 hcl1 hB1=>Zv (yeb (s:=1) (j:=i.1) i.1 Tryz.underlying222 U U hlt (by omega))<|Zv (yd 1 U U hc1)<|Zy U<|Zns<|Zm U<|Zv (sl_of ⟨_,Tryz.underlying79⟩ U)<|Zm U<|Zn ?_
  refine Zbl ?_
  refine Zlq (ι:={ k:Nat // k≤(ofs n L i.1).length }) (fun k=>[(20,.int .i64 (k.1:Int)),(19,.int .i64 ((ofs n L i.1).length:Int)),(18,.slice A1 (ofs n L i.1).length cap1),(14,.int .i64 (i.1:Int)),(13,.int .i64 (n:Int)),(12,.slice (some ⟨g,0,none⟩) n n),(0,.func (.yield y) #[] #[])]) (fun k=>[.hp (J (allU n i.1 k.1 L)),.hp (own lnE A1 cap1 (ofs n L i.1))]) (fun k=>(ofs n L i.1).length-k.1) ⟨0,by omega⟩ ⟨U,U,U,U,U,U,U,trivial⟩ [4,2] U fun k=>Zsr<|Zv (ylt U U)<|Znq<|Zif U (fun h21=>?_) (fun h21=>?_)
  refine Zkn<|Zsq<|Zbl<|Zsr<|Zv (yea 1 own.rd U U U (by first | assumption | omega) U Tryz.underlying79 U)<|Zv (yel 1 own.rd U (gE (by first | assumption | omega)) U U U)<|Ze (eal z145) fun b6=>Zw<|Ze (esw 0 (m:=18) U U U U U (Enc.len ..) (Enc.allL ..))<|Zw0<|Znl ?_
  refine Zxs<|Zm U<|Zv (ydw 0 (m:=18) U U (Enc.len ..)) ?_
  rotate_left
  refine Zex<|Zxt<|Zxt<|Zxx<|Zxn<|Znx<|Zrg<|Zv (yadd U U (i64w U (by omega)))<|Zm U<|Znl ?_
  rotate_left
  ·have hk:k.1<(ofs n L i.1).length:=by omega
   have hx:=allU_next (gE hk)
   have hp:allU n i.1 k.1 L++[(ofs n L i.1)[k.1]] <+: allL n L:=by rw [hx];exact allU_pre hlt hk
   refine Zyd (hYd _ _ hp) 1 U U U ?_ ?_
   refine Zv (ynot U)<|Zn<|Zcf U<|Zsk<|Zxn<|Znx<|Zrg<|Zv (yadd U U (i64w U (by omega)))<|Zm U ?_
   refine Znl ?_
   rotate_left
   refine Zv (ynot U)<|Zn<|Zct U<|Zex<|Zxb U<|Zxt<|Zxt<|Zxb U<|Zxb U ?_
   refine Zxt<|Zxt<|Zxx<|Zgn<|Zee ?_
   rotate_left
   ·rw [hx]
    refine Zlr ⟨k.1+1,hk⟩ (by show (ofs n L i.1).length-(k.1+1)<(ofs n L i.1).length-k.1;omega) ⟨U,U,U,U,U,U,U,trivial⟩ [0,1] 1 U U
   ·refine Zre .n (hS.2 _ hp) [0] 6 U U U U
  ·have hk:k.1=(ofs n L i.1).length:=by have:=k.2;omega
   rw [hk,allU_row]
   refine Zfx [2,2,1,1] (hB1.same hc1) U ?_
   refine Zlr ⟨i.1+1,hlt⟩ (by show n-(i.1+1)<n-i.1;omega) ⟨U,U,U,U,trivial⟩ [0,0] 0 U U
 ·have hi:=i.2
  rw [show i.1=n by omega,allU_all]
  refine Zre .n hS.1 [1] 2 U U U U
theorem Sq.one {α:Type} {P:Program} {gf:Nat} {lb:List Value} {C:List Ck} {C':List α→List Ck} {enc:α→List Value} {xs:List α} (h:Sq P gf lb C C' enc xs):Sq P gf lb [.hp (Sep C)] C' enc xs:=⟨fun l J Jx hY=>⟨fun e X w Φ hp hS=>(h.run l J Jx hY).run e X w Φ (hp.imp fun _ hs=>hs.mapTl fun _ hs=>hs.flat) hS⟩⟩
theorem c106 {gf:Nat} {lb:List Value} {c:Ck} {xs:List Ln} (hq:Sq Tryz.prog gf lb [c] (fun _=>[]) (fun x=>[.agg (lnE.arr x)]) xs) (hl:xs.length≤1000000) (hf:callOk Tryz.prog gf=true):Sp Tryz.prog 106 [.slice none 0 0,.func (.func gf) #[] lb.toArray] [c] fun K=>∀ A cap,K (.returned (.slice A xs.length cap)) [.hp (own lnE A cap xs)]:=by
 refine ZenM Tryz.func106 U U U fun e X Φ hS=>Zsr<|Ze (ebx U) fun b2=>Zw<|Zy U<|Znqs<|Zm U<|Znl ?_
 refine Znx<|Zbl ?_
 refine Zfc [0] (coll_nil (E:=lnE) (bo:=b2) (ts:=79)) U ?_
 refine Zrf hq (fun pre=>[.hp (collC lnE b2 79 pre)]) (fun _=>True) (fun _=>[]) (fun _=>False) (fun _ _=>[]) (fun _ _=>False) [1,0] U U trivial (fun e' y pre x F hx _=>?_) (fun D _=>?_) (fun _ _ _ h=>h.elim) (fun _ _ _ _ h=>h.elim) (fun _=>U) (by decide)
 refine Zrg<|Ze (eal z145) fun b5=>Zw<|Ze (esw 0 (m:=18) U U U U U (Enc.len ..) (Enc.allL ..))<|Zw0<|Znl<|Zak 2 U fun F'=>Zbl<|Zrg ?_
 rotate_left
 refine Zxn<|Zxs ?_
 rotate_left
 ·refine Zol 1 coll_op U<|fun A cap=>Zv (yd 0 U U U)<|Zv (ydw 2 (m:=18) U U (Enc.len ..)) ?_
  have hlen:=prefix_len hx
  have hm:pre.length+[x].length≤maxLen:=ml_le (by simp;omega)
  refine Ze (eb1 (E:=lnE) (p:=x) elLn (by decide) U)<|fun B=>Zw ?_
  refine Ze (eap' 2 0 elLn U U U own.rd U U U (fun _ _=>U) (by simp;omega) hm)<|fun A' cap'=>Zw<|Ze (es 1 U U U U U)<|Zw0<|Znl<|Zxn ?_
  refine Zfx [1,1] (coll_fold (bo:=b2) (ts:=79) (pre:=pre++[x]) U) U<|Zrn trivial [0] 2 U U
 ·refine Zol 1 coll_op U<|fun A cap=>Zv (yd 0 U U U)<|Zy U<|Znr<|Zmk 2 U ?_
  refine Zre (.t U .n) (hS A cap) [1] 1 U U U U
theorem c60 {gf:Nat} {lb:List Value} {c:Ck} {xs:List Ln} (hq:Sq Tryz.prog gf lb [c] (fun _=>[]) (fun x=>[.agg (lnE.arr x)]) xs) (hl:xs.length≤1000000) (hf:callOk Tryz.prog gf=true):Sp Tryz.prog 60 [.func (.func gf) #[] lb.toArray] [c] fun K=>∀ A cap,K (.returned (.slice A xs.length cap)) [.hp (own lnE A cap xs)]:=by
 refine Zen Tryz.func60 U U U fun e X Φ hS=>Zsr<|Zy U<|Zns<|Zm U ?_
 refine Zk (c106 hq hl hf) [0] U U<|fun A=>fun cap=>Zq<|Zy U<|Znr ?_
 refine Zre (.t U .n) (hS A cap) [0] 0 U U U U
structure CD where
 id:Int
 n:Nat
 ways:Int
 L:List Ln
 ask:Option (Int × Bool)
 giv:Option Ln
structure CD.Ok (d:CD):Prop where
 i0:0≤d.id
 i1:d.id<4
 n0:0<d.n
 n1:d.n≤64
 w0:1≤d.ways
 w1:d.ways≤8
 un:Uniq d.L
 fit:Fits d.n d.ways d.L
 ask:∀ l wr,d.ask=some (l,wr)→U32 l
def askC (p:Option Addr):Option (Int × Bool)→HP
 | none=>fun _=>p=none
 | some (l,wr)=>fun h=>∃ b,p=some ⟨b,0,none⟩∧Sep [.blk b 196 [.int .u32 l,.bool wr]] h
def givC (p:Option Addr):Option Ln→HP
 | none=>fun _=>p=none
 | some x=>fun h=>∃ b,p=some ⟨b,0,none⟩∧Sep [.blk b 145 (lnE.cells x)] h
theorem askC.is {p:Option Addr} {a:Option (Int × Bool)} {h:Hl} (hh:askC p a h):p.isSome=a.isSome:=by
 rcases a with _ | ⟨l,wr⟩
 ·rw [show p=none from hh];rfl
 ·obtain ⟨b,e,_⟩:=hh;rw [e];rfl
theorem givC.is {p:Option Addr} {a:Option Ln} {h:Hl} (hh:givC p a h):p.isSome=a.isSome:=by
 cases a with
 | none=>rw [show p=none from hh];rfl
 | some x=>obtain ⟨b,e,_⟩:=hh;rw [e];rfl
def cacC (b:Nat) (d:CD):HP:=fun h=>d.Ok∧∃ lb pa pg,Sep [.blk b 155 [.int .i64 d.id,pt lb,.pointer pa,.pointer pg],.hp (linesC lb d.n d.ways d.L),.hp (askC pa d.ask),.hp (givC pg d.giv)] h
theorem cac_op {b:Nat} {d:CD}:Op_ (cacC b d) fun K=>d.Ok→∀ lb pa pg,pa.isSome=d.ask.isSome→pg.isSome=d.giv.isSome→K [.blk b 155 [.int .i64 d.id,pt lb,.pointer pa,.pointer pg],.hp (linesC lb d.n d.ways d.L),.hp (askC pa d.ask),.hp (givC pg d.giv)] := .mk fun G k h hh=>by
 obtain ⟨ok,lb,va,vg,hs⟩:=hh
 obtain ⟨_,_,ha⟩:=hs.nth (i:=2) rfl
 obtain ⟨_,_,hg⟩:=hs.nth (i:=3) rfl
 exact ⟨_,k ok lb va vg (askC.is ha) (givC.is hg),hs⟩
theorem cac_fold {b lb:Nat} {d:CD} {pa pg:Option Addr} (ok:d.Ok):∀ h,Sep [.blk b 155 [.int .i64 d.id,pt lb,.pointer pa,.pointer pg],.hp (linesC lb d.n d.ways d.L),.hp (askC pa d.ask),.hp (givC pg d.giv)] h→cacC b d h:=fun _ hs=>⟨ok,lb,pa,pg,hs⟩
theorem ask_op1 {p:Option Addr} {l:Int} {wr:Bool}:Op_ (askC p (some (l,wr))) fun K=>∀ b,p=some ⟨b,0,none⟩→K [.blk b 196 [.int .u32 l,.bool wr]] := .mk fun G k h hh=>by
 obtain ⟨b,e,hs⟩:=hh
 exact ⟨_,k b e,hs⟩
theorem giv_op1 {p:Option Addr} {x:Ln}:Op_ (givC p (some x)) fun K=>∀ b,p=some ⟨b,0,none⟩→K [.blk b 145 (lnE.cells x)] := .mk fun G k h hh=>by
 obtain ⟨b,e,hs⟩:=hh
 exact ⟨_,k b e,hs⟩
theorem ask_f0:∀ h,Sep [] h→askC none none h:=fun _ _=>rfl
theorem ask_f1 {b:Nat} {l:Int} {wr:Bool}:∀ h,Sep [.blk b 196 [.int .u32 l,.bool wr]] h→askC (some ⟨b,0,none⟩) (some (l,wr)) h:=fun _ hs=>⟨b,rfl,hs⟩
theorem giv_f0:∀ h,Sep [] h→givC none none h:=fun _ _=>rfl
theorem giv_f1 {b:Nat} {x:Ln}:∀ h,Sep [.blk b 145 (lnE.cells x)] h→givC (some ⟨b,0,none⟩) (some x) h:=fun _ hs=>⟨b,rfl,hs⟩
def Ln.st (x:Ln) (s:Int):Ln:=⟨x.num,s,x.bs,x.hn⟩
theorem pt_st (x:Ln) (s:Int):put (lnE.cells x) 1 (.int .i64 s)=some (lnE.cells (x.st s)):=rfl
def Msg.wb (m:Msg) (b:B16):Msg:=⟨m.kind,m.src,m.dst,m.line,b,m.hn⟩
theorem pt_mbs (m:Msg) (b:B16):spl (msgE.cells m) 4 (bsE.cells b)=msgE.cells (m.wb b):=by
 show spl (m.cells) 4 (b16c b)=(m.wb b).cells
 unfold Msg.cells Msg.wb b16c
 simp only [spl]
 rw [List.drop_of_length_le (by simp [m.bs.2.1,b.2.1]),List.append_nil]
section
variable {P:Program} {N:Nat × List Deferred} {T:Tb} {e:World} {L:List Ck} {ty:TypeId} {pos:String} {af:Array Edge} {g:Option (Nat × Bool)} {dd:Option Nat}
theorem ybln3 {parts:List (Nat × Operand)} {n s:Int} {b:B16} (hn:0≤n∧n<4294967296) (h:evP T parts=some [(0,.int .u32 n),(1,.int .i64 s),(2,.agg (bsE.cells b).toArray)]):Yl Tryz.prog N T e L ⟨dd,.build 145 parts.toArray,ty,pos,af,g⟩ (.agg (lnE.arr ⟨n,s,b,hn⟩)):=fun a w fr hp=>by
 have hb:(cl (.agg (bsE.cells b).toArray)).length=16:=bsE.len b
 have:=yb (P:=Tryz.prog) (N:=N) (T:=T) (e:=e) (L:=L) (dd:=dd) (ty:=ty) (pos:=pos) (af:=af) (g:=g) l145 h ⟨⟨_,_,rfl,rfl,rfl⟩,⟨_,_,rfl,rfl,rfl⟩,⟨_,_,rfl,hb,rfl⟩,trivial⟩ a w fr hp
 rw [this]
 congr 3
 have hl:(bsE.cells b).length=16:=bsE.len b
 show (List.toArray _)=List.toArray _
 congr 1
 show _::_::(bsE.cells b++_)=_::_::bsE.cells b
 congr 2
 rw [List.drop_of_length_le (by rw [hb];exact Nat.le_refl 16),List.append_nil]
theorem ybln2 {parts:List (Nat × Operand)} {n:Int} {b:B16} (hn:0≤n∧n<4294967296) (h:evP T parts=some [(0,.int .u32 n),(2,.agg (bsE.cells b).toArray)]):Yl Tryz.prog N T e L ⟨dd,.build 145 parts.toArray,ty,pos,af,g⟩ (.agg (lnE.arr ⟨n,0,b,hn⟩)):=fun a w fr hp=>by
 have hb:(cl (.agg (bsE.cells b).toArray)).length=16:=bsE.len b
 have:=yb (P:=Tryz.prog) (N:=N) (T:=T) (e:=e) (L:=L) (dd:=dd) (ty:=ty) (pos:=pos) (af:=af) (g:=g) l145 h ⟨⟨_,_,rfl,rfl,rfl⟩,⟨_,_,rfl,hb,rfl⟩,trivial⟩ a w fr hp
 rw [this]
 congr 3
 have hl:(bsE.cells b).length=16:=bsE.len b
 show (List.toArray _)=List.toArray _
 congr 1
 show _::_::(bsE.cells b++_)=_::_::bsE.cells b
 congr 2
 rw [List.drop_of_length_le (by rw [hb];exact Nat.le_refl 16),List.append_nil]
end
theorem fits_len {n:Nat} {ways:Int} {L:List Ln} (h0:0<n) (h64:n≤64) (hw:ways≤8) (hf:Fits n ways L):L.length≤512:=by
 have h1:∀ m,m≤n→((List.range m).flatMap (ofs n L)).length≤m*8:=by
  intro m
  induction m with
  | zero=>intro _;simp
  | succ m ih=>
   intro hm
   rw [List.range_succ,List.flatMap_append,List.length_append]
   simp only [List.flatMap_cons,List.flatMap_nil,List.append_nil]
   have h2:=ih (by omega)
   have h3:=hf m (by omega)
   omega
 have h2:=h1 n (Nat.le_refl _)
 have h3:(allL n L).length=L.length:=allL_len h0 L
 unfold allL at h3
 omega
theorem CD.Ok.len {d:CD} (h:d.Ok):d.L.length≤512:=fits_len h.n0 h.n1 h.w1 h.fit
def writesB (s:Int):Bool:=decide (s=2) || decide (s=3)
def fndL (L:List Ln) (num:Int):Ln:=(getN L num).getD ln0
def stateOf (L:List Ln) (num:Int):Int:=(fndL L num).state
def CD.setL (d:CD) (L:List Ln):CD:=⟨d.id,d.n,d.ways,L,d.ask,d.giv⟩
theorem c59 (b lb:Nat) (v0 va vg:Value):Sp Tryz.prog 59 [pt b] [.blk b 155 [v0,pt lb,va,vg]] fun K=>K (.returned (.bool false)) [.blk b 155 [v0,pt lb,va,vg]]:=by
 refine Zen Tryz.func59 U U U fun e X Φ hS=>Zsr<|Zy U<|Zns<|Zm U<|Zv (ypeq U U U)<|Zm U<|Zg U U ?_
 refine Za 4 [1,0] U U<|Zg U U<|Zv (ypeq U U U)<|Zv (ypf U U) ?_
 refine Zy U<|Znr<|Zre (.t U .n) hS [0] 0 U U U U
theorem c222 (s:Int):Sp Tryz.prog 222 [.int .i64 s] [] fun K=>K (.returned (.bool (writesB s))) []:=by
 refine Zen Tryz.func222 U U U fun e X Φ hS=>Zsr<|Zy U<|Zns<|Zb 3 U<|Zgs U U (fun h5=>?_) (fun h5=>?_)
 refine Zu' U U (dT h5) U<|Zu' U U (dT h5) U<|Zv (ypt' U (dT h5) U)<|Zy U<|Znr<|Zre (.t U .n) hS [] 0 ?_ U U U
 rotate_left
 refine Zg' U U (dF h5)<|Zm U<|Zg' U U (dF h5)<|Zv (yeq U U)<|Zv (ypf' U (dF h5) U)<|Zy U<|Znr<|Zre (.t U .n) hS [] 0 ?_ U U U
 rotate_left
 all_goals simp [pk,writesB, *]
theorem c146' (b n:Nat) (ways num:Int) (L:List Ln) (hw:ways≠0) (hn:0≤num∧num<4294967296) (hl:L.length≤1048576):Sp Tryz.prog 146 [pt b,.int .u32 num] [.hp (linesC b n ways L)] fun K=>K (.returned (.tuple #[.agg (lnE.arr (fndL L num)),.bool (getN L num).isSome])) [.hp (linesC b n ways L)]:=⟨fun e X w Φ hp hS=>(c146 b n ways num L hw hn hl).run e X w Φ hp (by
 cases hg:getN L num with
 | none=>
  refine ⟨fun x h=>(by cases h),fun _=>?_⟩
  simpa [fndL,hg] using hS
 | some x=>
  refine ⟨fun y h=>?_,fun h=>(by cases h)⟩
  cases h
  simpa [fndL,hg] using hS)⟩
theorem c97 (b:Nat) (d:CD) (num:Int) (hn:U32 num):Sp Tryz.prog 97 [pt b,.int .u32 num] [.hp (cacC b d)] fun K=>K (.returned (.int .i64 (stateOf d.L num))) [.hp (cacC b d)]:=by
 refine Zen Tryz.func97 U U U fun e X Φ hS=>Zoc 0 cac_op U<|fun ok lb pa pg ha hg=>Zsr<|Zy U<|Znqs<|Zm U<|Zk (c59 ..) [0] U U<|Zq ?_
 refine Zn<|Zcf U<|Zks<|Za 4 [1,0] U U ?_
 refine Zm U ?_
 refine Zk (c146' lb d.n d.ways num d.L (by have:=ok.w0;omega) hn (Nat.le_trans ok.len (by decide))) [1] U U<|Zq<|Zb 3 U<|Ze (eal z145) fun b5=>Zw<|Ze (esw 0 (m:=18) U U U U U (Enc.len ..) (Enc.allL ..))<|Zw0<|Zy U<|Zn ?_
 refine Zsr<|Za 3 [1,0] U U<|Znr ?_
 refine Zfx [2,1,1,1] (cac_fold (b:=b) (d:=d) ok) U<|Zre (.t U .n) hS [0] 1 U U U U
theorem c103 (b:Nat) (d:CD):Sp Tryz.prog 103 [pt b] [.hp (cacC b d)] fun K=>K (.returned (.tuple #[.agg (lnE.arr (d.giv.getD ln0)),.bool d.giv.isSome])) [.hp (cacC b d)]:=by
 obtain ⟨id_,n,ways,L,ask,giv⟩:=d
 cases giv with
 | none=>
  refine Zen Tryz.func103 U U U fun e X Φ hS=>Zoc 0 cac_op U<|fun ok lb pa pg ha hg=>Zsr<|Ze (eal z145) fun b2=>Zw<|Zy U<|Znqs<|Zm U<|Zk (c59 ..) [1] U U ?_
  refine Zq<|Za 5 [3,0] U U ?_
  refine Zg U U<|Zv (ypeq U U U)<|Zv (ypf U U)<|Zn<|Zib U (fun h12=>?_) (fun h12=>?_)
  refine Zsr<|Zv (yb l145 U)<|Ze (esw 1 (m:=18) U U U U U U U)<|Zw0<|Zy U<|Znr<|Zr1 ?_
  rotate_left
  refine Zks<|Za 4 [3,0] U U ?_
  rotate_left
  ·refine Zfx [0,1,1,1] (cac_fold (b:=b) (d:=⟨id_,n,ways,L,ask,none⟩) ok) U<|Zre (.wh 1 (m:=18) U U U (.t U .n)) hS [0] 1 U U U U
  ·exact absurd h12 (by cases pg with | none=>simp | some a=>cases hg)
 | some x=>
  refine Zen Tryz.func103 U U U fun e X Φ hS=>Zoc 0 cac_op U<|fun ok lb pa pg ha hg=>Zoc 3 giv_op1 U<|fun bg eg=>?_
  subst eg
  refine Zsr<|Ze (eal z145) fun b2=>Zw<|Zy U<|Znqs<|Zm U<|Zk (c59 ..) [2] U U<|Zq ?_
  refine Za 5 [3,0] U U<|Zg U U ?_
  refine Zv (ypeq U U U)<|Zv (ypf U U)<|Zn<|Zcf U<|Zks<|Zb 2 U ?_
  refine Za 3 [3,0] U U<|Zv (ydw 2 (m:=18) U U (Enc.len ..))<|Ze (esw 1 (m:=18) U U U U U (Enc.len ..) (Enc.allL ..))<|Zw0<|Zy U<|Znr ?_
  refine Zfx [2] (giv_f1 (b:=bg) (x:=x)) U ?_
  refine Zfx [1,2,2,0] (cac_fold (b:=b) (d:=⟨id_,n,ways,L,ask,some x⟩) ok) U<|Zre (.wh 1 (m:=18) U U (Enc.len ..) (.t U .n)) hS [0] 1 U U U U
theorem c231 (fine:Bool) (why:Int):Sp Tryz.prog 231 [.bool fine,.int .i64 why] [] fun K=>(fine=true→K (.returned (.tuple #[])) [])∧(fine=false→K (.panicked (panV (.iface 348 (.agg #[.int .i64 why])))) []):=by
 cases fine
 ·refine Zen Tryz.func231 U U U fun e X Φ hS=>Zsr<|Zb 2 U<|Zn<|Zct U<|Zrg<|Zm U<|Zv (yb l348 U) ?_
  refine Zv (ymi Tryz.underlying348 U U)<|Zpn U ?_
  refine Zpe (hS.2 U) [] 0 U U
 ·refine Zen Tryz.func231 U U U fun e X Φ hS=>Zsr<|Zb 2 U<|Zn<|Zcf U<|Zsk<|Zee ?_
  refine Zre .n (hS.1 U) [] 0 U U U U
theorem c231f (fine:Bool) (why:Int) (h:fine=false):Sp Tryz.prog 231 [.bool fine,.int .i64 why] [] fun K=>K (.panicked (panV (.iface 348 (.agg #[.int .i64 why])))) []:=by
 subst h
 refine Zen Tryz.func231 U U U fun e X Φ hS=>Zsr<|Zb 2 U<|Zn<|Zct U<|Zrg<|Zm U<|Zv (yb l348 U) ?_
 refine Zv (ymi Tryz.underlying348 U U)<|Zpn U ?_
 refine Zpe hS [] 0 U U
theorem c232 (b:Nat) (i kind num:Int) (hn:U32 num) (v1 v2 v3:Value):Sp Tryz.prog 232 [pt b,.int .i64 kind,.int .u32 num] [.blk b 155 [.int .i64 i,v1,v2,v3]] fun K=>K (.returned (.agg (msgE.arr (mkM kind i 4 num b16z hn)))) [.blk b 155 [.int .i64 i,v1,v2,v3]]:=by
 refine Zen Tryz.func232 U U U fun e X Φ hS=>Zsr<|Ze (eal z117) fun b6=>Zw<|Zns<|Za 4 [0] U U ?_
 refine Za 2 [1] U U<|Zv (yb l117 U)<|Ze (esw 0 (m:=20) U U U U U U U)<|Zw0<|Znr<|Zre (.wh 0 (m:=20) U U U .n) hS [1] 1 U U U U
def rightA (addr width:Int):Bool:=(decide (width=1) || decide (width=2) || decide (width=4)) && decide (addr%width=0)
theorem rightA_yes {addr width:Int} (h:rightA addr width=true):1≤width∧width≤4∧addr%16+width≤16:=by
 simp [rightA] at h
 obtain ⟨(h1 | h1) | h1,h2⟩:=h <;> subst h1 <;> omega
theorem c221 (addr width:Int) (ha:U32 addr):Sp Tryz.prog 221 [.int .u32 addr,.int .i64 width] [] fun K=>K (.returned (.tuple #[.int .u32 (addr/16),.int .i64 (addr%16),.bool (rightA addr width)])) []:=by
 have ha':=ha
 unfold U32 at ha'
 refine Zen Tryz.func221 U U U fun e X Φ hS=>Zsr<|Zb 3 U<|Zns<|Zb 2 U ?_
 refine Zm U<|Zgs U U (fun h10=>?_) (fun h10=>?_)
 refine Zu' U U (dT h10) U<|Zu' U U (dT h10) U<|Zv (ypt' U (dT h10) U)<|Zb 6 U ?_
 refine Zb 1 U<|Zg U U<|Zv (ymx U U U)<|Zg U U<|Zv (ycv Tryz.underlying3 Tryz.underlying40 U (u32w U (by omega)))<|Zg U U<|Zv (yrem U U (by omega) U)<|Zb 1 U ?_
 refine Zb 2 U<|Zns<|Zm U<|Zv (yquo U U (by decide) U)<|Zm U<|Zv (yrem U U (by decide) U)<|Zv (ycv Tryz.underlying40 Tryz.underlying3 U U) ?_
 refine Zb 4 U<|Znr<|Zre (.t U (.t U (.t U .n))) hS [] 0 ?_ U U U
 rotate_left
 refine Zg' U U (dF h10)<|Zm U<|Zg' U U (dF h10)<|Zv (yeq U U)<|Zv (ypf' U (dF h10) U)<|Zm U<|Zgs U U (fun h14=>?_) (fun h14=>?_)
 refine Zu' U U (dT h14) U<|Zu' U U (dT h14) U<|Zv (ypt' U (dT h14) U)<|Zb 3 U<|Zg U U<|Zv (ymx U U U) ?_
 refine Zg U U<|Zv (ycv Tryz.underlying3 Tryz.underlying40 U (u32w U (by omega)))<|Zg U U<|Zv (yrem U U (by omega) U)<|Zb 3 U<|Zn ?_
 refine Zsr<|Zm U<|Zv (yquo U U (by decide) U)<|Zm U<|Zv (yrem U U (by decide) U)<|Zv (ycv Tryz.underlying40 Tryz.underlying3 U U)<|Zb 4 U ?_
 refine Znr<|Zre (.t U (.t U (.t U .n))) hS [] 0 ?_ U U U
 rotate_left
 refine Zg' U U (dF h14)<|Zm U<|Zg' U U (dF h14)<|Zv (yeq U U)<|Zv (ypf' U (dF h14) U)<|Zm U<|Zgs U U (fun h18=>?_) (fun h18=>?_)
 refine Zg' U U (dT h18)<|Zm U<|Zg' U U (dT h18)<|Zm U<|Zg' U U (dT h18)<|Zv (ymx U U U)<|Zg' U U (dT h18)<|Zv (ycv Tryz.underlying3 Tryz.underlying40 U (u32w U (by omega)))<|Zg' U U (dT h18)<|Zv (yrem U U (by omega) U) ?_
 refine Zg' U U (dT h18)<|Zv (yeq U U)<|Zv (ypt' U (dT h18) U)<|Zy U<|Zns<|Zm U<|Zv (yquo U U (by decide) U)<|Zm U ?_
 refine Zv (yrem U U (by decide) U)<|Zv (ycv Tryz.underlying40 Tryz.underlying3 U U)<|Zb 4 U<|Znr<|Zre (.t U (.t U (.t U .n))) hS [] 0 ?_ U U U
 rotate_left
 refine Zu' U U (dF h18) U<|Zu' U U (dF h18) U<|Zu' U U (dF h18) U<|Zu' U U (dF h18) U<|Zu' U U (dF h18) U<|Zu' U U (dF h18) U<|Zv (ypf' U (dF h18) U)<|Zy U<|Zn ?_
 refine Zsr<|Zm U<|Zv (yquo U U (by decide) U)<|Zm U<|Zv (yrem U U (by decide) U)<|Zv (ycv Tryz.underlying40 Tryz.underlying3 U U)<|Zb 4 U ?_
 refine Znr<|Zre (.t U (.t U (.t U .n))) hS [] 0 ?_ U U U
 rotate_left
 all_goals rw [Int.tdiv_eq_ediv_of_nonneg ha.1,Int.tmod_eq_emod_of_nonneg ha.1,u32w (r:=addr/16) rfl (by omega),i64w (r:=addr%16) rfl (by omega)]
 ·subst h10
  simp [rightA,pk,Int.tmod_eq_emod_of_nonneg ha.1,show max (2:Int) 1=2 from rfl,show max (4:Int) 1=4 from rfl]
 ·subst h14
  simp [rightA,pk,Int.tmod_eq_emod_of_nonneg ha.1,show max (2:Int) 1=2 from rfl,show max (4:Int) 1=4 from rfl]
 ·subst h18
  simp [rightA,pk,Int.tmod_eq_emod_of_nonneg ha.1,show max (2:Int) 1=2 from rfl,show max (4:Int) 1=4 from rfl]
 ·simp [rightA,pk,h10,h14,h18]
def rdR (bs:List Int) (p:Nat):Nat→Int
 | 0=>0
 | i+1=>w32 (BitVec.ofInt 32 (rdR bs p i) ||| BitVec.ofInt 32 (w32 (bs.getD (p+i) 0*2 ^ min (8*i) 32))).toNat
theorem getD_bd {l:List Int} (h:∀ a∈l,0≤a∧a<256) (j:Nat):0≤l.getD j 0∧l.getD j 0<256:=by
 by_cases hj:j<l.length
 ·have e:l.getD j 0=l[j]:=by simp [List.getD,hj]
  rw [e]
  exact h _ (List.getElem_mem hj)
 ·have e:l.getD j 0=0:=by simp [List.getD,List.getElem?_eq_none (show l.length≤j by omega)]
  rw [e]
  omega
def by8 (v:Int) (i:Nat):Int:=IntKind.u8.wrap (v.fdiv (2 ^ min (8*i) 32))
theorem u8_bd (x:Int):0≤IntKind.u8.wrap x∧IntKind.u8.wrap x<256:=by
 simp [IntKind.wrap,IntKind.signed,IntKind.bits]
 omega
def wrL (bs:List Int) (p:Nat) (v:Int):Nat→List Int
 | 0=>bs
 | i+1=>(wrL bs p v i).set (p+i) (by8 v i)
theorem wrL_len (bs:List Int) (p:Nat) (v:Int):∀ i,(wrL bs p v i).length=bs.length
 | 0=>rfl
 | i+1=>by rw [wrL,List.length_set,wrL_len]
theorem wrL_bd {bs:List Int} (h:∀ a∈bs,0≤a∧a<256) (p:Nat) (v:Int):∀ i,∀ a∈wrL bs p v i,0≤a∧a<256
 | 0=>h
 | i+1=>fun a ha=>by
  rcases List.mem_or_eq_of_mem_set ha with ha | rfl
  ·exact wrL_bd h p v i a ha
  ·exact u8_bd _
def wrB (b:B16) (p:Nat) (v:Int) (i:Nat):B16:=⟨wrL b.1 p v i,by rw [wrL_len];exact b.2.1,wrL_bd b.2.2 p v i⟩
theorem nt_byte (x:Ln) {j:Nat} (hj:j<16):nth (lnE.cells x) (2+j)=some (.int .u8 (x.bs.1.getD j 0)):=by
 have hl:=x.bs.2.1
 rw [nth_eq]
 show (Ln.cells x)[2+j]? = _
 rw [Nat.add_comm]
 simp [Ln.cells,List.getD,List.getElem?_eq_getElem (show j<x.bs.1.length by omega)]
def Ln.wr (x:Ln) (p:Nat) (v:Int) (i:Nat):Ln:=⟨x.num,x.state,wrB x.bs p v i,x.hn⟩
theorem pt_byte (x:Ln) (p i:Nat) (v:Int) (hj:p+i<16):put (lnE.cells (x.wr p v i)) (2+(p+i)) (.int .u8 (by8 v i))=some (lnE.cells (x.wr p v (i+1))):=by
 rw [put_set _ _ _ (by rw [lnE.len];show _<18;omega)]
 show some ((Ln.cells _).set (2+(p+i)) _)=some (Ln.cells _)
 rw [Nat.add_comm 2]
 simp [Ln.cells,Ln.wr,wrB,wrL,List.map_set]
def readF (L:List Ln) (addr width:Int):Int × Int:=
 if rightA addr width=false then (0,2) else match getN L (addr/16) with
  | none=>(0,232)
  | some x=>(rdR x.bs.1 (addr%16).toNat width.toNat,0)
theorem c252 (b:Nat) (d:CD) (addr width:Int) (ha:U32 addr):Sp Tryz.prog 252 [pt b,.int .u32 addr,.int .i64 width] [.hp (cacC b d)] fun K=>K (.returned (.tuple #[.int .u32 (readF d.L addr width).1,.int .i64 (readF d.L addr width).2])) [.hp (cacC b d)]:=by
 have hn:U32 (addr/16):=by unfold U32 at *;omega
 cases hr:rightA addr width with
 | false=>
  rw [show readF d.L addr width=(0,2) from if_pos hr]
  refine Zen Tryz.func252 U U U fun e X Φ hS=>Zoc 0 cac_op U<|fun ok lb pa pg hha hg=>Zsr<|Zb 2 U<|Znqs<|Zm U<|Zk (c59 ..) [0] U U ?_
  refine Zq<|Zn<|Zcf U<|Zks<|Zb 2 U ?_
  refine Zk (c221 addr width ha) [] U U<|Zq<|Zb 7 U<|Znl ?_
  refine Zxq<|Zsr<|Zb 2 U<|Zn<|Zct' U (congrArg Bool.not hr)<|Zsr<|Zy U ?_
  refine Zy U<|Znr<|Zr1 ?_
  refine Zfx [0,0,0,0] (cac_fold (b:=b) (d:=d) ok) U<|Zre (.t U (.t U .n)) hS [0] 0 U U U U
 | true=>
  obtain ⟨w1,w2,w3⟩:=rightA_yes hr
  obtain ⟨p,hp⟩:∃ p:Nat,addr%16=p:=⟨(addr%16).toNat,by omega⟩
  obtain ⟨wd,rfl⟩:∃ wd:Nat,width=wd:=⟨width.toNat,by omega⟩
  refine Zen Tryz.func252 U U U fun e X Φ hS=>Zoc 0 cac_op U<|fun ok lb pa pg hha hg=>?_
  refine Zsr<|Zb 2 U<|Znqs<|Zm U<|Zk (c59 ..) [0] U U<|Zq ?_
  refine Zn<|Zcf U<|Zks<|Zb 2 U ?_
  refine Zk (c221 addr wd ha) [] U U<|Zq<|Zb 7 U<|Znl ?_
  refine Zxq<|Zsr<|Zb 2 U<|Zn<|Zcf' U (congrArg Bool.not hr)<|Zkn ?_
  refine Zsr<|Za 5 [1,0] U U ?_
  refine Zk (c146' lb d.n d.ways (addr/16) d.L (by have:=ok.w0;omega) hn (Nat.le_trans ok.len (by decide))) [1] U U<|Zq<|Zb 3 U<|Ze (eal z145) fun b11=>Zw<|Ze (esw 0 (m:=18) U U U U U (Enc.len ..) (Enc.allL ..))<|Zw0<|Zy U<|Zn ?_
  refine Zsq<|Zsr<|Zb 2 U<|Zn<|Zib U (fun h36=>?_) (fun h36=>?_)
  refine Zsr<|Zb 2 U<|Znr<|Zr1 ?_
  rotate_left
  refine Zks<|Zy U<|Znqs<|Zb 2 U ?_
  refine Znb ?_
  rotate_left
  ·have hx:getN d.L (addr/16)=none:=by simpa using h36
   rw [show readF d.L addr wd=(0,232) by unfold readF;rw [hr,hx];rfl] at hS
   refine Zfx [2,1,1,1] (cac_fold (b:=b) (d:=d) ok) U<|Zre (.t U (.t U .n)) hS [0] 1 U U U U
  ·obtain ⟨x,hx⟩:∃ x,getN d.L (addr/16)=some x:=by
    cases hq:getN d.L (addr/16) with
    | none=>rw [hq] at h36;cases h36
    | some x=>exact ⟨x,rfl⟩
   have e1:readF d.L addr wd=(rdR x.bs.1 p wd,0):=by unfold readF;rw [hr,hx,hp];rfl
   have e2:fndL d.L (addr/16)=x:=by unfold fndL;rw [hx];rfl
   rw [e1] at hS
   rw [e2,hp]
   rw [hp] at w3
   refine Zlq (ι:={ i:Nat // i≤wd }) (fun i=>[(38,.int .i64 (i.1:Int)),(37,.int .i64 (wd:Int)),(13,.int .u32 (rdR x.bs.1 p i.1)),(11,pt b11),(9,.int .i64 (p:Int))]) (fun i=>[.blk b11 145 (lnE.cells x)]) (fun i=>wd-i.1) ⟨0,by omega⟩ ⟨U,U,U,U,U,trivial⟩ [0] U fun i=>Zsr<|Zv (ylt U U)<|Znq<|Zif U (fun h39=>?_) (fun h39=>?_)
   refine Zkn<|Zsq<|Zbl<|Zsr<|Zb 2 U<|Zn<|Zrg ?_
   refine Zb 3 U<|Zv (yadd U U (i64w U (by omega)))<|Zv (yf 2 U)<|Zv (yai Tryz.underlying115 U U (by omega)) ?_
   rotate_left
   refine Zex<|Zxt<|Zxt<|Zxx<|Zxs<|Zb 3 U<|Znl ?_
   refine Zxr ?_
   rotate_left
   ·have hb:=getD_bd x.bs.2.2 (p+i.1)
    refine Zv (yd 0 U U (nt_byte x (j:=p+i.1) (by omega)))<|Zv (ycv Tryz.underlying5 Tryz.underlying40 U (u32w U (by omega)))<|Zm U<|Zv (ymul U U (i64w U (by omega)))<|Zv (yshl U U (by omega) U)<|Zv (yor U U U)<|Zy U<|Znl<|Zxn<|Znx ?_
    refine Zrg<|Zv (yadd U U (i64w U (by omega)))<|Zm U<|Znl ?_
    refine Zlr ⟨i.1+1,by omega⟩ (by show wd-(i.1+1)<wd-i.1;omega) ⟨U,U,U,U,U,trivial⟩ [0] 0 U U
   ·have hi:i.1=wd:=by have:=i.2;omega
    rw [hi]
    refine Zfx [2,1,1,1] (cac_fold (b:=b) (d:=d) ok) U<|Zre (.t U (.t U .n)) hS [0] 1 U U U U
def wrLn (x:Ln) (addr width v:Int):Ln:=(x.wr (addr%16).toNat v width.toNat).st 3
def writeF (d:CD) (addr width v:Int):CD × Int:=
 if rightA addr width=false then (d,2) else if writesB (stateOf d.L (addr/16))=false then (d,232)
 else (d.setL (putL d.n d.ways d.L (wrLn (fndL d.L (addr/16)) addr width v)),putE d.n d.ways d.L (wrLn (fndL d.L (addr/16)) addr width v))
theorem CD.Ok.put {d:CD} (h:d.Ok) (l:Ln):(d.setL (putL d.n d.ways d.L l)).Ok:={ h with un:=h.un.putL,fit:=h.fit.putL l }
theorem CD.Ok.drop {d:CD} (h:d.Ok) (num:Int):(d.setL (dropL d.L num)).Ok:={ h with un:=h.un.drop num,fit:=h.fit.drop num }
theorem c187 (b:Nat) (d:CD) (addr width v:Int) (ha:U32 addr):Sp Tryz.prog 187 [pt b,.int .u32 addr,.int .i64 width,.int .u32 v] [.hp (cacC b d)] fun K=>K (.returned (.int .i64 (writeF d addr width v).2)) [.hp (cacC b (writeF d addr width v).1)]:=by
 have hn:U32 (addr/16):=by unfold U32 at *;omega
 cases hr:rightA addr width with
 | false=>
  rw [show writeF d addr width v=(d,2) from if_pos hr]
  refine Zen Tryz.func187 U U U fun e X Φ hS=>Zoc 0 cac_op U<|fun ok lb pa pg hha hg=>Zsr<|Zy U<|Znqs<|Zm U<|Zk (c59 ..) [0] U U<|Zq ?_
  refine Zn<|Zcf U<|Zks<|Zb 2 U ?_
  refine Zk (c221 addr width ha) [] U U<|Zq<|Zb 7 U<|Znl ?_
  refine Zxq<|Zsr<|Zb 2 U<|Zn<|Zct' U (congrArg Bool.not hr)<|Zsr<|Zy U ?_
  refine Znr<|Zr1 ?_
  refine Zfx [0,0,0,0] (cac_fold (b:=b) (d:=d) ok) U<|Zre (.t U .n) hS [0] 0 U U U U
 | true=>
  obtain ⟨w1,w2,w3⟩:=rightA_yes hr
  obtain ⟨p,hp⟩:∃ p:Nat,addr%16=p:=⟨(addr%16).toNat,by omega⟩
  obtain ⟨wd,rfl⟩:∃ wd:Nat,width=wd:=⟨width.toNat,by omega⟩
  refine Zen Tryz.func187 U U U fun e X Φ hS=>Zoc 0 cac_op U<|fun ok lb pa pg hha hg=>?_
  refine Zsr<|Zy U<|Znqs<|Zm U<|Zk (c59 ..) [0] U U<|Zq<|Znl ?_
  refine Znx<|Zcf U<|Zks<|Zb 2 U ?_
  refine Zk (c221 addr wd ha) [] U U<|Zq<|Zb 7 U<|Znl ?_
  refine Zxq<|Zsr<|Zb 2 U<|Zn<|Zcf' U (congrArg Bool.not hr)<|Zkn ?_
  refine Zsr<|Za 5 [1,0] U U ?_
  refine Zk (c146' lb d.n d.ways (addr/16) d.L (by have:=ok.w0;omega) hn (Nat.le_trans ok.len (by decide))) [1] U U<|Zq<|Zb 3 U<|Ze (eal z145) fun b12=>Zw<|Ze (esw 0 (m:=18) U U U U U (Enc.len ..) (Enc.allL ..))<|Zw0<|Zy U<|Zn ?_
  refine Zsq<|Zsr<|Za 2 [1,0] U U<|Zk (c222 ..) [] U U<|Zq<|Zv (ynot U)<|Zn<|Zib U (fun h38=>?_) (fun h38=>?_)
  refine Zsr<|Zy U<|Znr<|Zr1 ?_
  rotate_left
  refine Zkn<|Zsq<|Zsr<|Zb 2 U<|Znb ?_
  rotate_left
  ·have hx:writesB (stateOf d.L (addr/16))=false:=by simpa [stateOf] using h38
   have e1:writeF d addr wd v=(d,232):=by unfold writeF;rw [if_neg (by simp [hr]),if_pos hx]
   rw [e1] at hS
   refine Zfx [2,1,1,1] (cac_fold (b:=b) (d:=d) ok) U<|Zre (.t U .n) hS [0] 1 U U U U
  ·have hx:¬ writesB (stateOf d.L (addr/16))=false:=by
    have:writesB (stateOf d.L (addr/16))=true:=by simpa [stateOf] using h38
    simp [this]
   have e1:writeF d addr wd v=(d.setL (putL d.n d.ways d.L (wrLn (fndL d.L (addr/16)) addr wd v)),putE d.n d.ways d.L (wrLn (fndL d.L (addr/16)) addr wd v)):=by unfold writeF;rw [if_neg (by simp [hr]),if_neg hx]
   generalize hxx:fndL d.L (addr/16)=x at *
   have e3:wrLn x addr wd v=(x.wr p v wd).st 3:=by unfold wrLn;rw [hp];rfl
   rw [e3] at e1
   rw [e1] at hS
   have hp':addr%16=(p:Int):=hp
   rw [hp]
   rw [hp] at w3
   refine Zlq (ι:={ i:Nat // i≤wd }) (fun i=>[(40,.int .i64 (i.1:Int)),(39,.int .i64 (wd:Int)),(12,pt b12),(10,.int .i64 (p:Int)),(3,.int .u32 v),(0,pt b)]) (fun i=>[.blk b12 145 (lnE.cells (x.wr p v i.1))]) (fun i=>wd-i.1) ⟨0,by omega⟩ ⟨U,U,U,U,U,U,trivial⟩ [0] U fun i=>Zsr<|Zv (ylt U U)<|Znq<|Zif U (fun h41=>?_) (fun h41=>?_)
   refine Zkn<|Zsq<|Zbl<|Zsr<|Zb 2 U<|Zn<|Zrg ?_
   refine Zb 2 U<|Zv (yadd U U (i64w U (by omega)))<|Zb 2 U<|Zv (ymul U U (i64w U (by omega)))<|Zv (yshr U U (by omega) U)<|Zv (ycv Tryz.underlying40 Tryz.underlying5 U U)<|Zv (yf 2 U)<|Zv (yai Tryz.underlying115 U U (by omega)) ?_
   rotate_left
   refine Zex<|Zxt<|Zxt<|Zxx<|Zxs<|Zv (yf 1 U)<|Ze (es 0 U U U (pt_st _ _) U)<|Zw0<|Zn ?_
   refine Zsq ?_
   rotate_left
   ·refine Ze (es 0 U U U (pt_byte x p i.1 v (by omega)) U)<|Zw0<|Znl<|Zxn<|Znx<|Zrg<|Zv (yadd U U (i64w U (by omega)))<|Zm U<|Znl ?_
    refine Zlr ⟨i.1+1,by omega⟩ (by show wd-(i.1+1)<wd-i.1;omega) ⟨U,U,U,U,U,U,trivial⟩ [0] 0 U U
   ·have hi:i.1=wd:=by have:=i.2;omega
    rw [hi]
    refine Zhd [1] U U<|Zht 0 U (ym U)<|Zht 1 U (yn U)<|Zht 2 U (yf 1 U)<|Zht 3 U (yd 1 U U U)<|Zht 4 U (ydw 0 (m:=18) U U (Enc.len ..)) ?_
    refine ZH1 5<|Zok (c223 lb d.n d.ways d.L ((x.wr p v wd).st 3) (by have:=ok.w0;omega) (Nat.le_trans ok.len (by decide))) [0] U U U<|Zqh 1 U<|Zht 6 U (ya U)<|ZHn<|Zxr ?_
    have ok':=ok.put ((x.wr p v wd).st 3)
    refine Zfx [2,0,1,1] (cac_fold (b:=b) (d:=d.setL (putL d.n d.ways d.L ((x.wr p v wd).st 3))) ok') U<|Zre (.t U .n) hS [0] 1 U U U U
def askM (i line:Int) (wr:Bool) (h:U32 line):Msg:=mkM (if wr then 2 else 1) i 4 line b16z h
def putM (i:Int) (x:Ln):Msg:=mkM 3 i 4 x.num x.bs x.hn
def CD.setG (d:CD) (L:List Ln) (g:Option Ln):CD:=⟨d.id,d.n,d.ways,L,d.ask,g⟩
def CD.setA (d:CD) (a:Option (Int × Bool)):CD:=⟨d.id,d.n,d.ways,d.L,a,d.giv⟩
def outF (d:CD) (x:Ln):CD × List Msg × Bool:=
 if x.state=1 then (d.setL (dropL d.L x.num),[],true)
 else match d.giv with
  | some _=>(d,[],false)
  | none=>(d.setG (dropL d.L x.num) (some x),[putM d.id x],true)
theorem CD.Ok.setG {d:CD} (h:d.Ok) (num:Int) (g:Option Ln):(d.setG (dropL d.L num) g).Ok:={ h with un:=h.un.drop num,fit:=h.fit.drop num }
theorem CD.Ok.setA {d:CD} (h:d.Ok) (l:Int) (wr:Bool) (hl:U32 l):(d.setA (some (l,wr))).Ok:={ h with ask:=fun l' wr' e=>by cases e;exact hl }
theorem out_ok {d:CD} (h:d.Ok) (x:Ln):(outF d x).1.Ok:=by
 unfold outF
 split
 ·exact h.drop _
 ·split
  ·exact h
  ·exact h.setG _ _
theorem none_of {p:Option Addr} {α:Type} {g:Option α} (h:p.isSome=g.isSome) (hg:g=none):p=none:=by
 subst hg
 cases p with
 | none=>rfl
 | some a=>cases h
theorem c201 (b:Nat) (d:CD) (x:Ln):Sp Tryz.prog 201 [pt b,.agg (lnE.arr x)] [.hp (cacC b d)] fun K=>∀ A cap,K (.returned (.tuple #[.slice A (outF d x).2.1.length cap,.bool (outF d x).2.2])) [.hp (own msgE A cap (outF d x).2.1),.hp (cacC b (outF d x).1)]:=by
 have hn:=x.hn
 by_cases h1:x.state=1
 ·have e1:outF d x=(d.setL (dropL d.L x.num),[],true):=if_pos h1
  rw [e1]
  refine Zen Tryz.func201 U U U fun e X Φ hS=>Zoc 0 cac_op U<|fun ok lb pa pg hha hg=>?_
  refine Zsr<|Ze (ebxE U) fun b3=>Zw<|Zb 2 U<|Znqs<|Za 2 [1,0] U U ?_
  refine Zv (yeq U U)<|Zn<|Zct' U (dT h1)<|Zsq ?_
  refine Zhd [2] U U<|Zht 0 U (ym U)<|Zht 1 U (yn U)<|Zht 2 U (yf 1 U)<|Zht 3 U (yd 1 U U U)<|Zht 4 U (yf 0 U)<|Zht 5 U (yd 0 U U U) ?_
  refine ZH1 6<|Zok (c233 lb d.n d.ways x.num d.L (by have:=ok.w0;omega) hn ok.un (Nat.le_trans ok.len (by decide))) [0] U U U<|Zqh 1 U<|ZHn<|Zxs<|Zb 2 U<|Znr ?_
  refine Zr1 ?_
  have ok':=ok.drop x.num
  refine Zfx [2,0,1,1] (cac_fold (b:=b) (d:=d.setL (dropL d.L x.num)) ok') U ?_
  refine Zix (fun _ hs=>sep_nil (E:=msgE) hs)<|Zre (.t U (.t U .n)) (hS _ _) [0,0] 1 U U U U
 ·cases hgv:d.giv with
  | some y=>
   have e1:outF d x=(d,[],false):=by unfold outF;rw [if_neg h1,hgv]
   rw [e1]
   refine Zen Tryz.func201 U U U fun e X Φ hS=>Zoc 0 cac_op U<|fun ok lb pa pg hha hg=>?_
   have hg':pg.isSome=true:=by rw [hg,hgv];rfl
   refine Zsr<|Ze (ebxE U) fun b3=>Zw<|Zb 2 U<|Znqs<|Za 2 [1,0] U U ?_
   refine Zv (yeq U U)<|Zn<|Zcf' U (dF h1)<|Zkn<|Zsq<|Zsr<|Zb 2 U ?_
   refine Za 2 [3,1] U U<|Zv (ypne U U U)<|Zn<|Zct' U hg'<|Zsr<|Zb 2 U<|Znl ?_
   refine Zxr<|Zr1 ?_
   refine Zfx [1,1,1,1] (cac_fold (b:=b) (d:=d) ok) U ?_
   refine Zix (fun _ hs=>sep_nil (E:=msgE) hs)<|Zre (.t U (.t U .n)) (hS _ _) [0,0] 1 U U U U
   | none=>
   have e1:outF d x=(d.setG (dropL d.L x.num) (some x),[putM d.id x],true):=by unfold outF;rw [if_neg h1,hgv]
   rw [e1]
   refine Zen Tryz.func201 U U U fun e X Φ hS=>Zoc 0 cac_op U<|fun ok lb pa pg hha hg=>?_
   have hg':pg=none:=none_of hg hgv
   subst hg'
   refine Zsr<|Ze (ebxE U) fun b3=>Zw<|Zb 2 U<|Znqs<|Za 2 [1,0] U U ?_
   refine Zv (yeq U U)<|Zn<|Zcf' U (dF h1)<|Zkn<|Zsq<|Zsr<|Zb 2 U ?_
   refine Za 2 [3,1] U U<|Zv (ypne U U U)<|Zn<|Zcf U<|Zkn<|Zsq ?_
   refine Zhd [2] U U<|Zht 0 U (ym U)<|Zht 1 U (yn U)<|Zht 2 U (yf 1 U)<|Zht 3 U (yd 1 U U U)<|Zht 4 U (yf 0 U)<|Zht 5 U (yd 0 U U U) ?_
   refine ZH1 6<|Zok (c233 lb d.n d.ways x.num d.L (by have:=ok.w0;omega) hn ok.un (Nat.le_trans ok.len (by decide))) [0] U U U<|Zqh 1 U<|ZHn<|Zxs<|Za 3 [3] U U<|Ze (es 2 U U U U U)<|Zw0<|Znl ?_
   refine Zxs<|Za 3 [0,1] U U ?_
   refine Zk (c232 b d.id 3 x.num hn (pt lb) (.pointer pa) (pt b3)) [2] U U<|Zq<|Ze (eal z117) fun b6=>Zw<|Ze (esw 0 (m:=20) U U U U U (Enc.len ..) (Enc.allL ..))<|Zw0<|Zns<|Zv (yf 2 U)<|Zv (yda 3 (m:=16) U U (ln_bs' _) (Enc.len ..))<|Zv (yf 4 U) ?_
   refine Ze (esc 0 (m:=16) U U U (pt_mbs _ _) U (Enc.len ..) (by rw [Enc.len];decide) (Enc.allL ..))<|Zw0<|Zns<|Zv (ydw 0 (m:=20) U U (Enc.len ..))<|Ze (eb1 elMsg (by decide) U) fun A40=>Zw<|Zb 2 U<|Zn ?_
   refine Zrt ?_
   have ok':=ok.setG x.num (some x)
   refine Zfx [4] (giv_f1 (b:=b3) (x:=x)) U ?_
   refine Zfx [3,3,3,0] (cac_fold (b:=b) (d:=d.setG (dropL d.L x.num) (some x)) ok') U<|Zre (.t U (.t U .n)) (hS _ _) [1,0] 2 U U U U
theorem c23 (b:Nat) (d:CD):Sp Tryz.prog 23 [pt b] [.hp (cacC b d)] fun K=>∀ A cap,K (.returned (.slice A (allL d.n d.L).length cap)) [.hp (own lnE A cap (allL d.n d.L)),.hp (cacC b d)]:=by
 refine Zen Tryz.func23 U U U fun e X Φ hS=>Zoc 0 cac_op U<|fun ok lb pa pg hha hg=>?_
 have hl:=ok.len
 have hl2:=allL_len ok.n0 d.L
 refine Zsr<|Zy U<|Znqs<|Zm U<|Zk (c59 ..) [0] U U<|Zq<|Znl ?_
 refine Znx<|Zcf U<|Zks<|Za 4 [1,0] U U ?_
 refine Zk (c61 lb d.n d.ways d.L (by have:=ok.w0;omega) (by omega)) [1] U U<|fun b1=>fun b'=>Zq ?_
 refine Zfl [1,0] (p:=Sep [.hp (linesC b' d.n d.ways d.L),.blk b1 151 [pt b']]) (fun _ h=>h) U ?_
 refine Zk (c60 (q107 b' b1 d.n d.ways d.L (by omega)).one (by omega) (by kernel_rfl)) [0] U U<|fun A=>fun cap=>Zq<|Zy U<|Znr ?_
 refine Zfx [2,1,1,1] (cac_fold (b:=b) (d:=d) ok) U<|Zre (.t U .n) (hS _ _) [1,0] 0 U U U U
theorem cac_ok {b:Nat} {d:CD}:Op_ (cacC b d) fun K=>d.Ok→K [.hp (cacC b d)] := .mk fun G k h hh=>⟨_,k hh.1,sep_hp1 hh⟩
def evictF (d:CD) (pick:Int):CD × List Msg:=if d.L=[] then (d,[]) else ((outF d ((allL d.n d.L).getD (pickAt pick d.L.length) ln0)).1,(outF d ((allL d.n d.L).getD (pickAt pick d.L.length) ln0)).2.1)
theorem c144 (b:Nat) (d:CD) (pick:Int) (hp : -9223372036854775808≤pick∧pick≤9223372036854775807):Sp Tryz.prog 144 [pt b,.int .i64 pick] [.hp (cacC b d)] fun K=>∀ A cap,K (.returned (.slice A (evictF d pick).2.length cap)) [.hp (own msgE A cap (evictF d pick).2),.hp (cacC b (evictF d pick).1)]:=by
 refine Zen Tryz.func144 U U U fun e X Φ hS=>Zoc 0 cac_ok U<|fun ok=>?_
 have hl:=ok.len
 have hl2:=allL_len ok.n0 d.L
 refine Zsr<|Zy U<|Zns<|Zm U<|Zk (c23 ..) [0] U U<|fun A=>fun cap=>Zq ?_
 refine Zy U<|Znqs<|Zm U<|Zv (sl_of ⟨_,Tryz.underlying79⟩ U)<|Zv (yeq U U)<|Zn ?_
 refine Zif U (fun h12=>?_) (fun h12=>?_)
 refine Zsr<|Zy U<|Znr<|Zr1 ?_
 rotate_left
 refine Zks<|Zb 4 U<|Zv (sl_of ⟨_,Tryz.underlying79⟩ U)<|Zv (yrem U U (by assumption) U)<|Zm U ?_
 refine Zv (sl_of ⟨_,Tryz.underlying79⟩ U)<|Zv (yadd U U U)<|Zm U<|Zv (sl_of ⟨_,Tryz.underlying79⟩ U)<|Zv (yrem U U (by assumption) U) ?_
 rotate_left
 ·have h0:d.L=[]:=List.length_eq_zero_iff.1 (by omega)
  have e1:evictF d pick=(d,[]):=if_pos h0
  rw [e1] at hS
  refine Zix (fun _ hs=>sep_nil (E:=msgE) hs)<|Zre (.t U .n) (hS _ _) [0,1] 1 U U U U
 ·have h0:¬ d.L=[]:=fun h=>h12 (by rw [hl2,h];rfl)
  have e1:evictF d pick=((outF d ((allL d.n d.L).getD (pickAt pick d.L.length) ln0)).1,(outF d ((allL d.n d.L).getD (pickAt pick d.L.length) ln0)).2.1):=if_neg h0
  rw [e1] at hS
  obtain ⟨p1,p2,p3,p4⟩:=pick_lt pick (n:=(allL d.n d.L).length) (by omega)
  have e2:IntKind.i64.wrap (pick.tmod (allL d.n d.L).length+(allL d.n d.L).length)=pick.tmod (allL d.n d.L).length+(allL d.n d.L).length:=i64w rfl (by omega)
  have e3:(allL d.n d.L).getD (pickAt pick d.L.length) ln0=(allL d.n d.L)[pickAt pick (allL d.n d.L).length]:=by
   rw [← hl2]
   simp [List.getD,p2]
  rw [e3] at hS
  rw [e2,p1]
  refine Zv (yea 0 own.rd U U U (by first | assumption | omega) U Tryz.underlying79 U)<|Zv (yel 0 own.rd U (gE (by first | assumption | omega)) U U U)<|Zk (c201 ..) [1] U U<|fun A_1=>fun cap_1=>Zq<|Zb 4 U ?_
  refine Zy U<|Zns<|Zb 2 U<|Znr<|Zre (.t U .n) (hS _ _) [0,0] 1 U U U U
def mine (g:Option Ln) (line:Int):Bool:=match g with | some x=>decide (x.num=line) | none=>false
def askF (d:CD) (line:Int) (h:U32 line) (wr:Bool) (pick:Int):CD × List Msg × Int:=
 if d.ask.isSome=true∨mine d.giv line=true then (d,[],230)
 else if stateOf d.L line≠0∧(wr=false∨writesB (stateOf d.L line)=true) then (d,[],231)
 else match vicL d.n d.ways d.L line pick with
  | none=>(d.setA (some (line,wr)),[askM d.id line wr h],0)
  | some x=>if (outF d x).2.2=true then ((outF d x).1.setA (some (line,wr)),(outF d x).2.1++[askM d.id line wr h],0) else (d,[],230)
theorem out_no {d:CD} {x:Ln} (h:(outF d x).2.2=false):outF d x=(d,[],false):=by
 unfold outF at *
 split
 ·rename_i h1;rw [if_pos h1] at h;cases h
 ·rename_i h1
  rw [if_neg h1] at h
  cases hg:d.giv with
  | none=>rw [hg] at h;cases h
  | some y=>rfl
theorem out_len (d:CD) (x:Ln):(outF d x).2.1.length≤1:=by
 unfold outF
 split
 ·simp
 ·split <;> simp
theorem out_id (d:CD) (x:Ln):(outF d x).1.id=d.id:=by
 unfold outF
 split
 ·rfl
 ·split <;> rfl
theorem c224 (b:Nat) (d:CD) (line pick:Int) (wr:Bool) (h:U32 line) (hp : -9223372036854775808≤pick∧pick≤9223372036854775807):Sp Tryz.prog 224 [pt b,.int .u32 line,.bool wr,.int .i64 pick] [.hp (cacC b d)] fun K=>∀ A cap,K (.returned (.tuple #[.slice A (askF d line h wr pick).2.1.length cap,.int .i64 (askF d line h wr pick).2.2])) [.hp (own msgE A cap (askF d line h wr pick).2.1),.hp (cacC b (askF d line h wr pick).1)]:=by
 refine Zen Tryz.func224 U U U fun e X Φ hS=>Zoc 0 cac_op U<|fun ok lb pa pg hha hg=>?_
 refine Zsr<|Zb 2 U<|Znqs<|Zm U<|Zk (c59 ..) [0] U U<|Zq ?_
 refine Zn<|Zcf U<|Zks<|Zb 2 U ?_
 refine Zfl [0,0,0,0] (cac_fold (b:=b) (d:=d) ok) U ?_
 refine Zk (c97 b d line h) [0] U U<|Zq<|Zy U<|Zn ?_
 refine Zjq (ι:=PLift (¬ (d.ask.isSome=true∨mine d.giv line=true)∧¬ (stateOf d.L line≠0∧(wr=false∨writesB (stateOf d.L line)=true)))) (fun _=>[(0,pt b),(1,.int .u32 line),(2,.bool wr),(3,.int .i64 pick),(8,.slice none 0 0)]) (fun _=>[.hp (cacC b d)]) X ?_ fun i=>?_
 refine Zbl<|Zsr<|Za 3 [2] U U ?_
 rotate_left
 refine Zsq<|Zsr<|Za 3 [1] U U ?_
 rotate_left
 ·rcases Option.eq_none_or_eq_some d.ask with hak | ⟨lw,hak⟩
  rotate_left
  ·have e1:askF d line h wr pick=(d,[],230):=if_pos (.inl (by rw [hak];rfl))
   rw [e1] at hS
   refine Zol 0 cac_op U<|fun _ lb pa pg hha hg=>?_
   have h1:pa.isSome=true:=by rw [hha,hak];rfl
   refine Zv (yd 0 U U U)<|Zv (ypne U U U)<|Zm U<|Zu' U U h1 U<|Zu' U U h1 U<|Zu' U U h1 U<|Zu' U U h1 U<|Zu' U U h1 U<|Zu' U U h1 U<|Zuu U U ?_
   refine Zb 8 U<|Zu' U U h1 U<|Zv (ypt' U h1 U) ?_
   refine Zy U<|Zn<|Zct U<|Zsr<|Zb 2 U<|Znr ?_
   refine Zr2<|Zr1 ?_
   refine Zfx [0,0,0,0] (cac_fold (b:=b) (d:=d) ok) U ?_
   refine Zix (fun _ hs=>sep_nil (E:=msgE) hs)<|Zre (.t U (.t U .n)) (hS _ _) [0,0] 0 U U U U
  ·have ha0:¬ d.ask.isSome=true:=by rw [hak];simp
   rcases Option.eq_none_or_eq_some d.giv with hgv | ⟨x,hgv⟩
   rotate_left
   ·refine Zol 0 cac_op U<|fun _ lb pa pg hha hg=>?_
    have h1:pa.isSome=false:=by rw [hha,hak];rfl
    rw [hgv]
    refine Zol 3 giv_op1 U<|fun bg eg=>?_
    subst eg
    refine Zv (yd 1 U U U)<|Zv (ypne U U U)<|Zm U<|Zg' U U h1<|Zm U<|Zg' U U h1<|Zv (yn U)<|Zg' U U h1<|Zv (yf 3 U)<|Zg' U U h1 ?_
    refine Zv (yd 1 U U U)<|Zg' U U h1<|Zv (ypne U U U)<|Zg' U U h1<|Zb 3 U<|Zg U U ?_
    refine Za 5 [3,1,0,0] U U<|Zg U U ?_
    refine Zb 2 U<|Zg' U U h1<|Zv (ypt U U)<|Zv (ypf' U h1 U)<|Zy U<|Zn<|Zif U (fun h21=>?_) (fun h21=>?_)
    refine Zsr<|Zb 2 U<|Znr<|Zr2<|Zr1 ?_
    rotate_left
    refine Zsr<|Zb 3 U<|Zgs U U (fun h48=>?_) (fun h48=>?_)
    refine Zg' U U (dT h48)<|Zm U<|Zg' U U (dT h48)<|Zv (ynot U)<|Zg' U U (dT h48)<|Zm U<|Zgb U U (fun h51=>?_) (fun h51=>?_)
    refine Zu' U U h51 U<|Zu' U U h51 U<|Zg' U U (dT h48)<|Zv (ypt' U h51 U)<|Zv (ypt' U (dT h48) U)<|Zy U<|Zn<|Zct U<|Zsr ?_
    refine Zb 2 U<|Znr<|Zr2<|Zr1 ?_
    rotate_left
    refine Zg' U U h51<|Zm U<|Zg' U U h51<|Zk (c222 ..) [] U U<|Zq<|Zg' U U (dT h48)<|Zv (ypf' U h51 U)<|Zv (ypt' U (dT h48) U)<|Zy U<|Znl ?_
    refine Znx<|Zib U (fun h45=>?_) (fun h45=>?_)
    refine Zsr<|Zb 2 U<|Znr<|Zr2<|Zr1 ?_
    rotate_left
    refine Zsk<|Zxn ?_
    rotate_left
    refine Zu' U U (dF h48) U<|Zu' U U (dF h48) U<|Zu' U U (dF h48) U<|Zb 2 U<|Zu' U U (dF h48) U<|Zv (ypf' U (dF h48) U)<|Zy U<|Zn ?_
    refine Zcf U<|Zsk<|Zxn ?_
    rotate_left
    all_goals refine Zfx [0] (giv_f1 (b:=bg) (x:=x)) rfl ?_
    all_goals rw [← hgv]
    all_goals refine Zfx [1,1,1,0] (cac_fold (b:=b) (d:=d) ok) rfl ?_
    ·have e1:askF d line h wr pick=(d,[],230):=if_pos (.inr (by rw [hgv];simp [mine,h21]))
     rw [e1] at hS
     refine Zix (fun _ hs=>sep_nil (E:=msgE) hs)<|Zre (.t U (.t U .n)) (hS _ _) [0,0] 0 U U U U
    all_goals have hm:¬ (d.ask.isSome=true∨mine d.giv line=true):=fun hh=>hh.elim ha0 (by rw [hgv];simp [mine,h21])
    ·have e1:askF d line h wr pick=(d,[],231):=(if_neg hm).trans (if_pos ⟨h48,.inl (by simpa using h51)⟩)
     rw [e1] at hS
     refine Zix (fun _ hs=>sep_nil (E:=msgE) hs)<|Zre (.t U (.t U .n)) (hS _ _) [0,0] 0 U U U U
    ·have e1:askF d line h wr pick=(d,[],231):=(if_neg hm).trans (if_pos ⟨h48,.inr h45⟩)
     rw [e1] at hS
     refine Zix (fun _ hs=>sep_nil (E:=msgE) hs)<|Zre (.t U (.t U .n)) (hS _ _) [0,0] 0 U U U U
    ·refine Zjr ⟨⟨hm,fun hh=>hh.2.elim (fun hw=>by rw [hw] at h51;cases h51) (fun hw=>by rw [hw] at h45;cases h45)⟩⟩ ⟨U,U,U,U,U,trivial⟩ [0] 0 U U
    ·refine Zjr ⟨⟨hm,fun hh=>h48 hh.1⟩⟩ ⟨U,U,U,U,U,trivial⟩ [0] 0 U U
   ·refine Zol 0 cac_op U<|fun _ lb pa pg hha hg=>?_
    have h1:pa.isSome=false:=by rw [hha,hak];rfl
    have h2:pg.isSome=false:=by rw [hg,hgv];rfl
    have hm:¬ (d.ask.isSome=true∨mine d.giv line=true):=fun hh=>hh.elim ha0 (by rw [hgv];simp [mine])
    refine Zv (yd 0 U U U)<|Zv (ypne U U U)<|Zm U<|Zg' U U h1<|Zm U<|Zg' U U h1<|Zv (yn U)<|Zg' U U h1<|Zv (yf 3 U)<|Zg' U U h1 ?_
    refine Zv (yd 0 U U U)<|Zg' U U h1<|Zv (ypne U U U)<|Zg' U U h1<|Zm U<|Zu' U U h2 U<|Zu' U U h2 U<|Zu' U U h2 U<|Zu' U U h2 U<|Zu' U U h2 U ?_
    refine Zu' U U h2 U<|Zu' U U h2 U<|Zu' U U h2 U<|Zu' U U h2 U<|Zg' U U h1<|Zv (ypf' U h2 U)<|Zv (ypf' U h1 U)<|Zy U<|Zn ?_
    refine Zcf U<|Zsr<|Zb 3 U<|Zgs U U (fun h48=>?_) (fun h48=>?_)
    refine Zg' U U (dT h48)<|Zm U<|Zg' U U (dT h48)<|Zv (ynot U)<|Zg' U U (dT h48)<|Zm U<|Zgb U U (fun h51=>?_) (fun h51=>?_)
    refine Zu' U U h51 U<|Zu' U U h51 U<|Zg' U U (dT h48)<|Zv (ypt' U h51 U)<|Zv (ypt' U (dT h48) U)<|Zy U<|Zn<|Zct U<|Zsr ?_
    refine Zb 2 U<|Znr<|Zr2<|Zr1 ?_
    rotate_left
    refine Zg' U U h51<|Zm U<|Zg' U U h51<|Zk (c222 ..) [] U U<|Zq<|Zg' U U (dT h48)<|Zv (ypf' U h51 U)<|Zv (ypt' U (dT h48) U)<|Zy U<|Znl ?_
    refine Znx<|Zib U (fun h45=>?_) (fun h45=>?_)
    refine Zsr<|Zb 2 U<|Znr<|Zr2<|Zr1 ?_
    rotate_left
    refine Zsk<|Zxn ?_
    rotate_left
    refine Zu' U U (dF h48) U<|Zu' U U (dF h48) U<|Zu' U U (dF h48) U<|Zb 2 U<|Zu' U U (dF h48) U<|Zv (ypf' U (dF h48) U)<|Zy U<|Zn ?_
    refine Zcf U<|Zsk<|Zxn ?_
    rotate_left
    all_goals refine Zfx [0,0,0,0] (cac_fold (b:=b) (d:=d) ok) rfl ?_
    ·have e1:askF d line h wr pick=(d,[],231):=(if_neg hm).trans (if_pos ⟨h48,.inl (by simpa using h51)⟩)
     rw [e1] at hS
     refine Zix (fun _ hs=>sep_nil (E:=msgE) hs)<|Zre (.t U (.t U .n)) (hS _ _) [0,0] 0 U U U U
    ·have e1:askF d line h wr pick=(d,[],231):=(if_neg hm).trans (if_pos ⟨h48,.inr h45⟩)
     rw [e1] at hS
     refine Zix (fun _ hs=>sep_nil (E:=msgE) hs)<|Zre (.t U (.t U .n)) (hS _ _) [0,0] 0 U U U U
    ·refine Zjr ⟨⟨hm,fun hh=>hh.2.elim (fun hw=>by rw [hw] at h51;cases h51) (fun hw=>by rw [hw] at h45;cases h45)⟩⟩ ⟨U,U,U,U,U,trivial⟩ [0] 0 U U
    ·refine Zjr ⟨⟨hm,fun hh=>h48 hh.1⟩⟩ ⟨U,U,U,U,U,trivial⟩ [0] 0 U U
 ·obtain ⟨⟨hm,h2⟩⟩:=i
  refine Zol 0 cac_op U<|fun _ lb pa pg hha hg=>?_
  refine Za 3 [0] U U ?_
  refine Zk (c254 lb d.n d.ways line pick d.L ok.w0 h hp (Nat.le_trans ok.len (by decide))) [1] U U<|⟨?_,?_⟩
  refine fun x=>fun a=>Zq <| Zv (ym rfl) <| Zv (yx rfl rfl) <| Zv (yx rfl rfl) <| Ze (eal z145) fun b11=>Zw <| Ze (esw 0 (m:=18) rfl rfl rfl rfl rfl (Enc.len ..) (Enc.allL ..)) <| Zw0 <| Zv (ya rfl) <| Znl ?_
  refine Zxs<|Zm U<|Zn<|Zct U<|Zsr<|Zm U<|Zv (ydw 0 (m:=18) U U (Enc.len ..)) ?_
  rotate_left
  refine fun a=>Zq <| Zv (ym rfl) <| Zv (yx rfl rfl) <| Zv (yx rfl rfl) <| Ze (eal z145) fun b11=>Zw <| Ze (esw 0 (m:=18) rfl rfl rfl rfl rfl (Enc.len ..) (Enc.allL ..)) <| Zw0 <| Zv (ya rfl) <| Znl <| Znx ?_
  refine Zsr<|Zm U<|Zn<|Zcf U<|Zks<|Zb 2 U ?_
  refine Zm U<|Zv (yb l196 U)<|Ze (ebx U) fun b80=>Zw<|Za 2 [2] U U<|Ze (es 3 U U U U U)<|Zw0<|Zns<|Zy U ?_
  refine Znqs<|Zm U<|Zn<|Zib U (fun h83=>?_) (fun h83=>?_)
  refine Zrg<|Zy U<|Zns<|Zb 4 U ?_
  rotate_left
  refine Zks<|Zb 4 U ?_
  rotate_left
  ·refine Zfl [2,1,1,1] (cac_fold (b:=b) (d:=d) ok) U<|Zk (c201 ..) [0] U U<|fun A=>fun cap=>Zq<|Zb 5 U ?_
   refine Znqs<|Zb 2 U<|Zn<|Zib U (fun h74=>?_) (fun h74=>?_)
   refine Zsr<|Zb 2 U<|Znr<|Zr1<|Zr1 ?_
   rotate_left
   refine Zkn<|Zrg<|Zb 2 U<|Zns<|Zb 2 U ?_
   refine Zm U<|Zv (yb l196 U)<|Ze (ebx U) fun b80=>Zw<|Za 2 [2] U U ?_
   rotate_left
   ·rw [show askF d line h wr pick=(d,[],230) by unfold askF;rw [if_neg hm,if_neg h2,a];simp only [];rw [if_neg (by rw [show (outF d x).2.2=false by simpa using h74];decide)]] at hS
    rw [out_no (show (outF d x).2.2=false by simpa using h74)]
    refine Zix (fun _ hs=>sep_nil (E:=msgE) hs)<|Zre (.t U (.t U .n)) (hS _ _) [0,1] 2 U U U U
   ·have ho:(outF d x).2.2=true:=by simpa using h74
    rw [show askF d line h wr pick=((outF d x).1.setA (some (line,wr)),(outF d x).2.1++[askM d.id line wr h],0) by unfold askF;rw [if_neg hm,if_neg h2,a];simp only [];rw [if_pos ho]] at hS
    have ok1:=out_ok ok x
    have hol:=out_len d x
    refine Zol 2 cac_op U<|fun _ lb1 pa1 pg1 hha1 hg1=>?_
    refine Ze (es 0 U U U U U)<|Zw0<|Zns<|Zy U<|Znqs<|Zm U ?_
    refine Zn<|Zib U (fun h83=>?_) (fun h83=>?_)
    refine Zrg<|Zy U<|Zns<|Zb 4 U ?_
    rotate_left
    refine Zks<|Zb 4 U ?_
    rotate_left
    ·subst h83
     refine Zk (c232 b (outF d x).1.id 2 line h (pt lb1) (pt b80) (.pointer pg1)) [0] U U<|Zq<|Ze (eb1 elMsg (by decide) U) fun A89=>Zw ?_
     have hm1:(outF d x).2.1.length+[mkM 2 (outF d x).1.id 4 line b16z h].length≤maxLen:=ml_le (by simp;omega)
     refine Ze (eap' 6 0 elMsg U U U own.rd U U U (fun _ _=>U) (by simp;omega) hm1)<|fun A' cap'=>Zw<|Zb 2 U<|Znr ?_
     refine Zfx [5] (ask_f1 (b:=b80) (l:=line) (wr:=true)) U ?_
     refine Zfx [2,2,0,2] (cac_fold (b:=b) (d:=(outF d x).1.setA (some (line,true))) (ok1.setA line true h)) U ?_
     rw [out_id]
     refine Zre (.t U (.t U .n)) (hS _ _) [3,0] 3 U U U U
    ·subst h83
     refine Zk (c232 b (outF d x).1.id 1 line h (pt lb1) (pt b80) (.pointer pg1)) [0] U U<|Zq<|Ze (eb1 elMsg (by decide) U) fun A89=>Zw ?_
     have hm1:(outF d x).2.1.length+[mkM 1 (outF d x).1.id 4 line b16z h].length≤maxLen:=ml_le (by simp;omega)
     refine Ze (eap' 6 0 elMsg U U U own.rd U U U (fun _ _=>U) (by simp;omega) hm1)<|fun A' cap'=>Zw<|Zb 2 U<|Znr ?_
     refine Zfx [5] (ask_f1 (b:=b80) (l:=line) (wr:=false)) U ?_
     refine Zfx [2,2,0,2] (cac_fold (b:=b) (d:=(outF d x).1.setA (some (line,false))) (ok1.setA line false h)) U ?_
     rw [out_id]
     refine Zre (.t U (.t U .n)) (hS _ _) [3,0] 3 U U U U
  all_goals rw [show askF d line h wr pick=(d.setA (some (line,wr)),[askM d.id line wr h],0) by unfold askF;rw [if_neg hm,if_neg h2,a]] at hS
  ·subst h83
   refine Zk (c232 b d.id 2 line h (pt lb) (pt b80) (.pointer pg)) [3] U U<|Zq<|Ze (eb1 elMsg (by decide) U) fun A89=>Zw ?_
   refine Zim (fun _ hs=>sep_nil (E:=msgE) hs) ?_
   have hm1:([]:List Msg).length+[askM d.id line true h].length≤maxLen:=ml_le (by simp)
   refine Ze (eap' 0 1 elMsg U U U own.rd U U U (fun _ _=>U) (by simp) hm1)<|fun A' cap'=>Zw<|Zb 2 U<|Znr ?_
   refine Zfx [3] (ask_f1 (b:=b80) (l:=line) (wr:=true)) U ?_
   refine Zfx [3,4,0,4] (cac_fold (b:=b) (d:=d.setA (some (line,true))) (ok.setA line true h)) U<|Zre (.t U (.t U .n)) (hS _ _) [1,0] 3 U U U U
  ·subst h83
   refine Zk (c232 b d.id 1 line h (pt lb) (pt b80) (.pointer pg)) [3] U U<|Zq<|Ze (eb1 elMsg (by decide) U) fun A89=>Zw ?_
   refine Zim (fun _ hs=>sep_nil (E:=msgE) hs) ?_
   have hm1:([]:List Msg).length+[askM d.id line false h].length≤maxLen:=ml_le (by simp)
   refine Ze (eap' 0 1 elMsg U U U own.rd U U U (fun _ _=>U) (by simp) hm1)<|fun A' cap'=>Zw<|Zb 2 U<|Znr ?_
   refine Zfx [3] (ask_f1 (b:=b80) (l:=line) (wr:=false)) U ?_
   refine Zfx [3,4,0,4] (cac_fold (b:=b) (d:=d.setA (some (line,false))) (ok.setA line false h)) U<|Zre (.t U (.t U .n)) (hS _ _) [1,0] 3 U U U U
abbrev stopP (why:Int):List PanicEntry:=panV (.iface 348 (.agg #[.int .i64 why]))
def dataOk (d:CD) (m:Msg):Bool:=match d.ask with | some (l,wr)=>decide (l=m.line) && (wr == decide (m.kind=10)) | none=>false
def dataLn (m:Msg):Ln:=⟨m.line,if m.kind=8 then 1 else 2,m.bs,m.hn⟩
def dataG (d:CD) (m:Msg):Bool:=dataOk d m && decide (putE d.n d.ways d.L (dataLn m)=0)
def CD.setLA (d:CD) (L:List Ln):CD:=⟨d.id,d.n,d.ways,L,none,d.giv⟩
theorem CD.Ok.putA {d:CD} (h:d.Ok) (l:Ln):(d.setLA (putL d.n d.ways d.L l)).Ok:={ h with un:=h.un.putL,fit:=h.fit.putL l,ask:=fun _ _ e=>by cases e }
theorem putL_no {n:Nat} {ways:Int} {L:List Ln} {l:Ln} (h:¬ putE n ways L l=0):putL n ways L l=L:=if_neg h
theorem c197 (b:Nat) (d:CD) (m:Msg):Sp Tryz.prog 197 [pt b,.agg (msgE.arr m)] [.hp (cacC b d)] fun K=>
  (dataG d m=true→∀ A,K (.returned (.slice A 1 1)) [.hp (own msgE A 1 [mkM 13 d.id 4 m.line b16z m.hn]),.hp (cacC b (d.setLA (putL d.n d.ways d.L (dataLn m))))])∧(dataG d m=false→K (.panicked (stopP 220)) [.hp (cacC b d)]):=by
 have hn:=m.hn
 rcases Option.eq_none_or_eq_some d.ask with hak | ⟨⟨l,wr⟩,hak⟩
 ·have h0:dataG d m=false:=by simp [dataG,dataOk,hak]
  refine Zen Tryz.func197 U U U fun e X Φ hS=>Zoc 0 cac_op U<|fun ok lb pa pg hha hg=>?_
  have h1:pa.isSome=false:=by rw [hha,hak];rfl
  refine Zsr<|Ze (ebxE U) fun b3=>Zw<|Zy U<|Znq<|Zhd [] U U<|Zht 0 U (ym U)<|Zht 1 U (yn U)<|Zht 2 U (yf 2 U) ?_
  refine Zht 3 U (yd 1 U U U)<|Zht 4 U (ypne U U U)<|Zht 5 U (ym U)<|Zhu 6 U U (lkn U h1) U<|Zhu 7 U U (lkn U h1) U<|Zhu 8 U U (lkn U h1) U<|Zhu 9 U U (lkn U h1) U<|Zhu 10 U U (lkn U h1) U<|Zhu 11 U U (lkn U h1) U<|Zhu 12 U U (lkn U h1) U ?_
  refine Zhu 13 U U (lkn U h1) U<|Zhu 14 U U (lkn U h1) U<|Zhu 15 U U (lkn U h1) U<|Zht 16 U (ypf' U h1 U)<|Zht 17 U (ym U)<|Zhu 18 U U U U<|Zhu 19 U U U U<|Zhu 20 U U U U<|Zhu 21 U U U U<|Zhu 22 U U U U ?_
  refine Zhu 23 U U U U<|Zhu 24 U U U U<|Zhu 25 U U U U<|Zhu 26 U U U U<|Zhu 27 U U U U<|Zhu 28 U U U U<|Zht 29 U (ypf U U)<|ZH1 30<|Zok (c231f (h:=U) ..) [] U U U<|Zqhp<|Zp1 ?_
  refine Zfx [1,1,1,1] (cac_fold (b:=b) (d:=d) ok) U ?_
  refine Zpe (hS.2 h0) [0] 1 U U
 ·refine Zen Tryz.func197 U U U fun e X Φ hS=>Zoc 0 cac_op U<|fun ok lb pa pg hha hg=>?_
  rw [hak]
  refine Zoc 2 ask_op1 U<|fun ba ea=>?_
  subst ea
  refine Zsr<|Ze (ebxE U) fun b3=>Zw<|Zy U<|Znq<|Zhd [] U U<|Zht 0 U (ym U)<|Zht 1 U (yn U)<|Zht 2 U (yf 2 U) ?_
  refine Zht 3 U (yd 2 U U U)<|Zht 4 U (ypne U U U)<|Zht 5 U (ym U)<|Zhg 6 U U U (ym U)<|Zhg 7 U U U (yn U)<|Zhg 8 U U U (yf 2 U)<|Zhg 9 U U U (yd 2 U U U)<|Zhg 10 U U U (yn U)<|Zhg 11 U U U (yf 0 U)<|Zhg 12 U U U (yd 1 U U U) ?_
  refine Zhg 13 U U U (yf 3 U)<|Zhg 14 U U U (yd 0 U U U)<|Zhg 15 U U U (yeq U U)<|Zht 16 U (ypt U U)<|Zht 17 U (ym U)<|Zhgs 18 U U U (fun h23=>?_) (fun h23=>?_)
  refine Zhg 18 U U (lkn U (dT h23)) (ym U)<|Zhg 19 U U (lkn U (dT h23)) (yn U)<|Zhg 20 U U (lkn U (dT h23)) (yf 2 U)<|Zhg 21 U U (lkn U (dT h23)) (yd 2 U U U)<|Zhg 22 U U (lkn U (dT h23)) (yn U)<|Zhg 23 U U (lkn U (dT h23)) (yf 1 U)<|Zhg 24 U U (lkn U (dT h23)) (yd 1 U U U)<|Zhg 25 U U (lkn U (dT h23)) (yf 0 U)<|Zhg 26 U U (lkn U (dT h23)) (yd 0 U U U)<|Zhg 27 U U (lkn U (dT h23)) (yeq U U) ?_
  refine Zhg 28 U U (lkn U (dT h23)) (ybeq U U U)<|Zht 29 U (ypt' U (dT h23) U)<|ZH1 30<|Zok (c231 ..) [] U U U<|⟨?_,?_⟩
  refine fun a=>Zqh 0 rfl <| Zhn (by kernel_rfl) <| Znx <| Zsr <| Zv (ya rfl) <| Znl <| Znx <| Zsq <| Zsr ?_
  refine Za 3 [0,0] U U<|Zn<|Zif U (fun h39=>?_) (fun h39=>?_)
  refine Zrg<|Zy U<|Znq ?_
  rotate_left
  refine Zkn<|Zsq ?_
  rotate_left
  refine fun a=>Zqhp <| Zp1 ?_
  rotate_left
  refine Zhu 18 U U (lkn U (dF h23)) U<|Zhu 19 U U (lkn U (dF h23)) U<|Zhu 20 U U (lkn U (dF h23)) U<|Zhu 21 U U (lkn U (dF h23)) U<|Zhu 22 U U (lkn U (dF h23)) U<|Zhu 23 U U (lkn U (dF h23)) U<|Zhu 24 U U (lkn U (dF h23)) U<|Zhu 25 U U (lkn U (dF h23)) U<|Zhu 26 U U (lkn U (dF h23)) U<|Zhu 27 U U (lkn U (dF h23)) U ?_
  refine Zhu 28 U U (lkn U (dF h23)) U<|Zht 29 U (ypf' U (dF h23) U)<|ZH1 30<|Zok (c231f (h:=U) ..) [] U U U<|Zqhp<|Zp1 ?_
  rotate_left
  ·have hd:dataLn m=⟨m.line,1,m.bs,m.hn⟩:=by unfold dataLn;rw [if_pos h39]
   refine Zhd [3] U U<|Zht 0 U (ym U)<|Zht 1 U (yn U)<|Zht 2 U (yf 1 U)<|Zht 3 U (yd 2 U U U)<|Zht 4 U (yf 3 U)<|Zht 5 U (yd 0 U U U)<|Zht 6 U (ym U)<|Zht 7 U (yf 4 U)<|Zht 8 U (yda 0 (m:=16) U U (msg_bs' _) (Enc.len ..)) ?_
   refine Zht 9 U (ybln3 (by assumption) U) ?_
   refine ZH1 10<|Zok (c223 lb d.n d.ways d.L ⟨m.line,1,m.bs,m.hn⟩ (by have:=ok.w0;omega) (Nat.le_trans ok.len (by decide))) [0] U U U<|Zqh 1 U<|Zht 11 U (yeq U U)<|ZH1 12<|Zok (c231 ..) [] U U U<|⟨?_,?_⟩
   refine fun a_1=>Zqh 1 rfl <| Zhn (by kernel_rfl) <| Znx <| Zsr <| Zv (ym rfl) <| Zv (yn rfl) <| Zv (yf 2 rfl) <| Ze (es 3 rfl rfl rfl rfl rfl) <| Zw0 <| Znl ?_
   refine Zxs<|Za 3 [3,1] U U ?_
   rotate_left
   refine fun a_1=>Zqhp <| Zp1 ?_
   rotate_left
   ·have h0:dataG d m=true:=by simp only [dataG,dataOk,hak,hd,h23,a,decide_true,Bool.true_and];simpa using a_1
    rw [h0] at hS
    have ok':=ok.putA (dataLn m)
    rw [hd] at ok' hS
    refine Zk (c232 b d.id 13 m.line hn (pt lb) (.pointer none) (.pointer pg)) [3] U U<|Zq<|Ze (eb1 elMsg (by decide) U) fun A60=>Zw<|Zy U<|Znr ?_
    refine Zfx [] ask_f0 U ?_
    refine Zfx [2,2,0,3] (cac_fold (b:=b) (d:=d.setLA (putL d.n d.ways d.L ⟨m.line,1,m.bs,m.hn⟩)) ok') U ?_
    refine Zre (.t U .n) (hS.1 U _) [1,0] 2 U U U U
   ·have h0:dataG d m=false:=by simp only [dataG,dataOk,hak,hd,h23,a,decide_true,Bool.true_and];simpa using a_1
    rw [putL_no (by simpa using a_1)]
    refine Zfx [2] (ask_f1 (b:=ba) (l:=l) (wr:=wr)) U ?_
    rw [← hak]
    refine Zfx [3,1,0,1] (cac_fold (b:=b) (d:=d) ok) U ?_
    refine Zpe (hS.2 h0) [0] 1 U U
  ·have hd:dataLn m=⟨m.line,2,m.bs,m.hn⟩:=by unfold dataLn;rw [if_neg h39]
   refine Zhd [3] U U<|Zht 0 U (ym U)<|Zht 1 U (yn U)<|Zht 2 U (yf 1 U)<|Zht 3 U (yd 2 U U U)<|Zht 4 U (yf 3 U)<|Zht 5 U (yd 0 U U U)<|Zht 6 U (ym U)<|Zht 7 U (yf 4 U)<|Zht 8 U (yda 0 (m:=16) U U (msg_bs' _) (Enc.len ..)) ?_
   refine Zht 9 U (ybln3 (by assumption) U) ?_
   refine ZH1 10<|Zok (c223 lb d.n d.ways d.L ⟨m.line,2,m.bs,m.hn⟩ (by have:=ok.w0;omega) (Nat.le_trans ok.len (by decide))) [0] U U U<|Zqh 1 U<|Zht 11 U (yeq U U)<|ZH1 12<|Zok (c231 ..) [] U U U<|⟨?_,?_⟩
   refine fun a_1=>Zqh 1 rfl <| Zhn (by kernel_rfl) <| Znx <| Zsr <| Zv (ym rfl) <| Zv (yn rfl) <| Zv (yf 2 rfl) <| Ze (es 3 rfl rfl rfl rfl rfl) <| Zw0 <| Znl ?_
   refine Zxs<|Za 3 [3,1] U U ?_
   rotate_left
   refine fun a_1=>Zqhp <| Zp1 ?_
   rotate_left
   ·have h0:dataG d m=true:=by simp only [dataG,dataOk,hak,hd,h23,a,decide_true,Bool.true_and];simpa using a_1
    rw [h0] at hS
    have ok':=ok.putA (dataLn m)
    rw [hd] at ok' hS
    refine Zk (c232 b d.id 13 m.line hn (pt lb) (.pointer none) (.pointer pg)) [3] U U<|Zq<|Ze (eb1 elMsg (by decide) U) fun A60=>Zw<|Zy U<|Znr ?_
    refine Zfx [] ask_f0 U ?_
    refine Zfx [2,2,0,3] (cac_fold (b:=b) (d:=d.setLA (putL d.n d.ways d.L ⟨m.line,2,m.bs,m.hn⟩)) ok') U ?_
    refine Zre (.t U .n) (hS.1 U _) [1,0] 2 U U U U
   ·have h0:dataG d m=false:=by simp only [dataG,dataOk,hak,hd,h23,a,decide_true,Bool.true_and];simpa using a_1
    rw [putL_no (by simpa using a_1)]
    refine Zfx [2] (ask_f1 (b:=ba) (l:=l) (wr:=wr)) U ?_
    rw [← hak]
    refine Zfx [3,1,0,1] (cac_fold (b:=b) (d:=d) ok) U ?_
    refine Zpe (hS.2 h0) [0] 1 U U
  ·have h0:dataG d m=false:=by simp [dataG,dataOk,hak,a]
   refine Zfx [1] (ask_f1 (b:=ba) (l:=l) (wr:=wr)) U ?_
   rw [← hak]
   refine Zfx [2,2,0,1] (cac_fold (b:=b) (d:=d) ok) U ?_
   refine Zpe (hS.2 h0) [0] 1 U U
  ·have h0:dataG d m=false:=by simp [dataG,dataOk,hak,h23]
   refine Zfx [1] (ask_f1 (b:=ba) (l:=l) (wr:=wr)) U ?_
   rw [← hak]
   refine Zfx [2,2,0,1] (cac_fold (b:=b) (d:=d) ok) U ?_
   refine Zpe (hS.2 h0) [0] 1 U U
def backG (d:CD) (m:Msg):Option (CD × B16):=
 if mine d.giv m.line=true then some (d,(d.giv.getD ln0).bs)
 else if writesB (stateOf d.L m.line)=true then some (d.setL (if m.kind=4 then putL d.n d.ways d.L ((fndL d.L m.line).st 1) else dropL d.L (fndL d.L m.line).num),(fndL d.L m.line).bs)
 else none
theorem c198 (b:Nat) (d:CD) (m:Msg):Sp Tryz.prog 198 [pt b,.agg (msgE.arr m)] [.hp (cacC b d)] fun K=>
  (∀ d' bs,backG d m=some (d',bs)→∀ A,K (.returned (.slice A 1 1)) [.hp (own msgE A 1 [mkM 11 d.id 4 m.line bs m.hn]),.hp (cacC b d')])∧(backG d m=none→K (.panicked (stopP 220)) [.hp (cacC b d)]):=by
 have hn:=m.hn
 refine Zen Tryz.func198 U U U fun e X Φ hS=>Zoc 0 cac_op U<|fun ok lb pa pg hha hg=>?_
 refine Zsr<|Ze (ebxE U) fun b3=>Zw<|Zy U<|Zns<|Za 3 [3,0] U U ?_
 refine Zk (c232 b d.id 11 m.line hn (pt lb) (.pointer pa) (.pointer pg)) [1] U U<|Zq<|Ze (eal z117) fun b5=>Zw<|Ze (esw 0 (m:=20) U U U U U (Enc.len ..) (Enc.allL ..))<|Zw0<|Zn ?_
 refine Zfc [1,2,2,2] (cac_fold (b:=b) (d:=d) ok) U ?_
 refine Zjq (ι:=PLift (¬ mine d.giv m.line=true)) (fun _=>[(0,pt b),(3,pt b3),(5,pt b5)]) (fun _=>[.hp (cacC b d),.blk b5 117 (msgE.cells (mkM 11 d.id 4 m.line b16z hn)),.blk b3 117 (msgE.cells m)]) X ?_ fun i=>?_
 rotate_left
 rotate_left
 ·refine Zoc 0 cac_op U<|fun _ lb pa pg hha hg=>?_
  rcases Option.eq_none_or_eq_some d.giv with hgv | ⟨x,hgv⟩
  ·have h2:pg.isSome=false:=by rw [hg,hgv];rfl
   have hm:mine d.giv m.line=false:=by simp [mine,hgv]
   refine Zsq<|Zhd [] U U<|Zht 0 U (ym U)<|Zht 1 U (yn U)<|Zht 2 U (yf 3 U)<|Zht 3 U (yd 0 U U U)<|Zht 4 U (ypne U U U)<|Zht 5 U (ym U)<|Zhu 6 U U (lkn U h2) U<|Zhu 7 U U (lkn U h2) U ?_
   refine Zhu 8 U U (lkn U h2) U<|Zhu 9 U U (lkn U h2) U<|Zhu 10 U U (lkn U h2) U<|Zhu 11 U U (lkn U h2) U<|Zhu 12 U U (lkn U h2) U<|Zhu 13 U U (lkn U h2) U<|Zhu 14 U U (lkn U h2) U<|Zhu 15 U U (lkn U h2) U<|Zht 16 U (ypf' U h2 U)<|ZHn ?_
   refine Znx<|Zcf U<|Zsk ?_
   refine Zfx [0,0,0,0] (cac_fold (b:=b) (d:=d) ok) U ?_
   refine Zjr ⟨by rw [hm];decide⟩ ⟨U,U,U,trivial⟩ [0,0,0] 0 U U
  ·rw [hgv]
   refine Zoc 3 giv_op1 U<|fun bg eg=>?_
   subst eg
   have hm:mine d.giv m.line=decide (x.num=m.line):=by simp [mine,hgv]
   refine Zsq<|Zhd [] U U<|Zht 0 U (ym U)<|Zht 1 U (yn U)<|Zht 2 U (yf 3 U)<|Zht 3 U (yd 1 U U U)<|Zht 4 U (ypne U U U)<|Zht 5 U (ym U)<|Zhg 6 U U U (ym U)<|Zhg 7 U U U (yn U) ?_
   refine Zhg 8 U U U (yf 3 U)<|Zhg 9 U U U (yd 1 U U U)<|Zhg 10 U U U (yn U)<|Zhg 11 U U U (yf 0 U)<|Zhg 12 U U U (yd 0 U U U)<|Zhg 13 U U U (yf 3 U)<|Zhg 14 U U U (yd 5 U U U)<|Zhg 15 U U U (yeq U U)<|Zht 16 U (ypt U U)<|ZHn ?_
   refine Znx<|Zif U (fun h28=>?_) (fun h28=>?_)
   refine Zsr<|Za 6 [3,1,2] U U<|Zv (yda 0 (m:=16) U U (ln_bs' _) (Enc.len ..))<|Zv (yf 4 U)<|Ze (esc 4 (m:=16) U U U (pt_mbs _ _) U (Enc.len ..) (by rw [Enc.len];decide) (Enc.allL ..))<|Zw0 ?_
   refine Zns<|Zv (ydw 4 (m:=20) U U (Enc.len ..))<|Ze (eb1 elMsg (by decide) U) fun A38=>Zw<|Zy U<|Znr<|Zr1 ?_
   rotate_left
   refine Zsk ?_
   rotate_left
   ·refine Zfx [1] (giv_f1 (b:=bg) (x:=x)) U ?_
    rw [← hgv]
    refine Zfx [2,2,2,0] (cac_fold (b:=b) (d:=d) ok) U ?_
    refine Zre (.t U .n) (hS.1 d x.bs (by unfold backG;rw [if_pos (by rw [hm];simpa using h28),hgv];rfl) _) [1,0] 2 U U U U
   ·refine Zfx [0] (giv_f1 (b:=bg) (x:=x)) U ?_
    rw [← hgv]
    refine Zfx [1,1,1,0] (cac_fold (b:=b) (d:=d) ok) U ?_
    refine Zjr ⟨by rw [hm];simpa using h28⟩ ⟨U,U,U,trivial⟩ [0,0,0] 0 U U
 ·obtain ⟨hm⟩:=i
  refine Zoc 0 cac_op U<|fun _ lb pa pg hha hg=>?_
  have hc:=c146' lb d.n d.ways m.line d.L (by have:=ok.w0;omega) hn (Nat.le_trans ok.len (by decide))
  refine Zjq (ι:=Nat) (fun b6=>[(6,pt b6),(0,pt b),(3,pt b3),(5,pt b5)]) (fun b6=>[.blk b6 145 (lnE.cells (fndL d.L m.line)),.hp (linesC lb d.n d.ways d.L),.blk b 155 [.int .i64 d.id,pt lb,.pointer pa,.pointer pg],.hp (askC pa d.ask),.hp (givC pg d.giv),.blk b5 117 (msgE.cells (mkM 11 d.id 4 m.line b16z hn)),.blk b3 117 (msgE.cells m)]) X ?_ fun b6=>?_
  rotate_left
  rotate_left
  ·refine Zhd [1] U U<|Zht 0 U (ym U)<|Zht 1 U (yn U)<|Zht 2 U (yf 1 U)<|Zht 3 U (yd 0 U U U)<|Zht 4 U (yf 3 U)<|Zht 5 U (yd 4 U U U) ?_
   refine ZH2 6 10 (Zok hc [0] U U U<|Zqh 1 U ?_) (Zoe U (eal z145) fun b6=>Zwh 2 U ?_)
   refine Zht 7 U (ym U)<|Zht 8 U (yx U U)<|Zht 9 U (yx U U)<|ZH1 10<|Zoe U (eal z145) fun b6=>Zwh 2 U<|ZH1 11<|Zoe U (esw 0 (m:=18) U U U U U (Enc.len ..) (Enc.allL ..))<|Zwh0 2 U<|Zht 12 U (ya U)<|ZHn ?_
   rotate_left
   rotate_left
   ·refine Zjr b6 ⟨U,U,U,U,trivial⟩ [0,0,0,0,0,0,0] 0 U U
   ·refine ZH1 6<|Zok hc [1] U U U<|Zqh 2 U<|Zht 7 U (ym U)<|Zht 8 U (yx U U)<|Zht 9 U (yx U U)<|ZH1 11<|Zoe U (esw 1 (m:=18) U U U U U (Enc.len ..) (Enc.allL ..))<|Zwh0 2 U<|Zht 12 U (ya U)<|ZHn ?_
    refine Zjr b6 ⟨U,U,U,U,trivial⟩ [1,0,0,0,0,0,0] 0 U U
  refine Zsr<|Za 2 [1,0] U U<|Zk (c222 ..) [] U U<|Zq<|Zk (c231 ..) [] U U<|⟨?_,?_⟩
  refine fun a=>Zq <| Znl <| Znx <| Zsr <| Zv (yf 2 rfl) <| Zv (yda 0 (m:=16) rfl rfl (ln_bs' _) (Enc.len ..)) <| Zv (yf 4 rfl) <| Ze (esc 5 (m:=16) rfl rfl rfl (pt_mbs _ _) rfl (Enc.len ..) (by rw [Enc.len];decide) (Enc.allL ..)) <| Zw0 <| Znl ?_
  refine Zxq<|Zsr<|Za 3 [0,6] U U<|Zn<|Zif U (fun h58=>?_) (fun h58=>?_)
  refine Zsr<|Zv (yf 1 U)<|Ze (es 0 U U U (pt_st _ _) U)<|Zw0<|Zn ?_
  rotate_left
  rotate_left
  refine fun a=>Zqp <| Zp1 ?_
  rotate_left
  ·have hb:backG d m=some (d.setL (putL d.n d.ways d.L ((fndL d.L m.line).st 1)),(fndL d.L m.line).bs):=by unfold backG;rw [if_neg hm,if_pos (show writesB (stateOf d.L m.line)=true from a),if_pos h58]
   refine Zhd [1] U U<|Zht 0 U (ym U)<|Zht 1 U (yn U)<|Zht 2 U (yf 1 U)<|Zht 3 U (yd 1 U U U)<|Zht 4 U (ydw 0 (m:=18) U U (Enc.len ..)) ?_
   refine ZH1 5<|Zok (c223 lb d.n d.ways d.L ((fndL d.L m.line).st 1) (by have:=ok.w0;omega) (Nat.le_trans ok.len (by decide))) [0] U U U<|Zqh 1 U<|ZHn<|Zxs<|Zv (ydw 5 (m:=20) U U (Enc.len ..))<|Ze (eb1 elMsg (by decide) U) fun A74=>Zw<|Zy U<|Zn ?_
   refine Zrt ?_
   refine Zfx [3,1,2,2] (cac_fold (b:=b) (d:=d.setL (putL d.n d.ways d.L ((fndL d.L m.line).st 1))) (ok.put ((fndL d.L m.line).st 1))) U ?_
   refine Zre (.t U .n) (hS.1 _ _ hb _) [1,0] 3 U U U U
  ·have hb:backG d m=some (d.setL (dropL d.L (fndL d.L m.line).num),(fndL d.L m.line).bs):=by unfold backG;rw [if_neg hm,if_pos (show writesB (stateOf d.L m.line)=true from a),if_neg h58]
   refine Zhd [1] U U<|Zht 0 U (ym U)<|Zht 1 U (yn U)<|Zht 2 U (yf 1 U)<|Zht 3 U (yd 1 U U U)<|Zht 4 U (yf 0 U)<|Zht 5 U (yd 0 U U U) ?_
   refine ZH1 6<|Zok (c233 lb d.n d.ways (fndL d.L m.line).num d.L (by have:=ok.w0;omega) (fndL d.L m.line).hn ok.un (Nat.le_trans ok.len (by decide))) [0] U U U<|Zqh 1 U<|ZHn<|Zxs<|Zv (ydw 5 (m:=20) U U (Enc.len ..))<|Ze (eb1 elMsg (by decide) U) fun A74=>Zw<|Zy U<|Zn ?_
   refine Zrt ?_
   refine Zfx [3,1,2,2] (cac_fold (b:=b) (d:=d.setL (dropL d.L (fndL d.L m.line).num)) (ok.drop (fndL d.L m.line).num)) U ?_
   refine Zre (.t U .n) (hS.1 _ _ hb _) [1,0] 3 U U U U
  ·have hb:backG d m=none:=by unfold backG;rw [if_neg hm,if_neg (show ¬ writesB (stateOf d.L m.line)=true by simp only [stateOf];rw [a];decide)]
   refine Zfx [2,1,1,1] (cac_fold (b:=b) (d:=d) ok) U ?_
   refine Zpe (hS.2 hb) [0] 3 U U
theorem c199 (b:Nat) (d:CD) (m:Msg):Sp Tryz.prog 199 [pt b,.agg (msgE.arr m)] [.hp (cacC b d)] fun K=>
  (writesB (stateOf d.L m.line)=false→∀ A,K (.returned (.slice A 1 1)) [.hp (own msgE A 1 [mkM 12 d.id 4 m.line b16z m.hn]),.hp (cacC b (d.setL (dropL d.L m.line)))])∧(writesB (stateOf d.L m.line)=true→K (.panicked (stopP 220)) [.hp (cacC b d)]):=by
 have hn:=m.hn
 refine Zen Tryz.func199 U U U fun e X Φ hS=>Zsr<|Ze (ebxE U) fun b3=>Zw<|Zy U<|Zns<|Za 3 [3,0] U U ?_
 refine Zk (c97 b d m.line hn) [1] U U<|Zq<|Zk (c222 ..) [] U U<|Zq<|Zv (ynot U)<|Zk (c231 ..) [] U U<|⟨?_,?_⟩
 refine fun a=>Zq <| Znl <| Znx <| Zsq ?_
 rotate_left
 refine fun a=>Zqp <| Zp1 ?_
 rotate_left
 ·have h0:writesB (stateOf d.L m.line)=false:=by simpa using a
  refine Zoc 0 cac_op U<|fun ok lb pa pg hha hg=>?_
  refine Zhd [1] U U<|Zht 0 U (ym U)<|Zht 1 U (yn U)<|Zht 2 U (yf 1 U)<|Zht 3 U (yd 0 U U U)<|Zht 4 U (yf 3 U)<|Zht 5 U (yd 3 U U U) ?_
  refine ZH1 6<|Zok (c233 lb d.n d.ways m.line d.L (by have:=ok.w0;omega) hn ok.un (Nat.le_trans ok.len (by decide))) [0] U U U<|Zqh 1 U<|ZHn<|Zxs<|Za 3 [3,4] U U ?_
  refine Zk (c232 b d.id 12 m.line hn (pt lb) (.pointer pa) (.pointer pg)) [1] U U<|Zq<|Ze (eb1 elMsg (by decide) U) fun A23=>Zw<|Zy U<|Znr ?_
  refine Zfx [1,1,1,1] (cac_fold (b:=b) (d:=d.setL (dropL d.L m.line)) (ok.drop m.line)) U ?_
  refine Zre (.t U .n) (hS.1 h0 _) [1,0] 1 U U U U
 ·have h0:writesB (stateOf d.L m.line)=true:=by simpa using a
  refine Zpe (hS.2 h0) [0] 1 U U
def CD.noG (d:CD):CD:=⟨d.id,d.n,d.ways,d.L,d.ask,none⟩
theorem CD.Ok.noG {d:CD} (h:d.Ok):d.noG.Ok:={ h with }
theorem c200 (b:Nat) (d:CD) (m:Msg):Sp Tryz.prog 200 [pt b,.agg (msgE.arr m)] [.hp (cacC b d)] fun K=>
  (mine d.giv m.line=true→K (.returned (.slice none 0 0)) [.hp (cacC b d.noG)])∧(mine d.giv m.line=false→K (.panicked (stopP 220)) [.hp (cacC b d)]):=by
 have hn:=m.hn
 rcases Option.eq_none_or_eq_some d.giv with hgv | ⟨x,hgv⟩
 ·refine Zen Tryz.func200 U U U fun e X Φ hS=>Zoc 0 cac_op U<|fun ok lb pa pg hha hg=>?_
  have h2:pg.isSome=false:=by rw [hg,hgv];rfl
  refine Zsr<|Ze (ebxE U) fun b3=>Zw<|Zy U<|Znq<|Zhd [] U U<|Zht 0 U (ym U)<|Zht 1 U (yn U)<|Zht 2 U (yf 3 U) ?_
  refine Zht 3 U (yd 1 U U U)<|Zht 4 U (ypne U U U)<|Zht 5 U (ym U)<|Zhu 6 U U (lkn U h2) U<|Zhu 7 U U (lkn U h2) U<|Zhu 8 U U (lkn U h2) U<|Zhu 9 U U (lkn U h2) U<|Zhu 10 U U (lkn U h2) U<|Zhu 11 U U (lkn U h2) U<|Zhu 12 U U (lkn U h2) U ?_
  refine Zhu 13 U U (lkn U h2) U<|Zhu 14 U U (lkn U h2) U<|Zhu 15 U U (lkn U h2) U<|Zht 16 U (ypf' U h2 U)<|ZH1 17<|Zok (c231f (h:=U) ..) [] U U U<|Zqhp<|Zp1 ?_
  refine Zfx [1,1,1,1] (cac_fold (b:=b) (d:=d) ok) U ?_
  refine Zpe (hS.2 (by simp [mine,hgv])) [0] 1 U U
 ·refine Zen Tryz.func200 U U U fun e X Φ hS=>Zoc 0 cac_op U<|fun ok lb pa pg hha hg=>?_
  rw [hgv]
  refine Zoc 3 giv_op1 U<|fun bg eg=>?_
  subst eg
  refine Zsr<|Ze (ebxE U) fun b3=>Zw<|Zy U<|Znq<|Zhd [] U U<|Zht 0 U (ym U)<|Zht 1 U (yn U)<|Zht 2 U (yf 3 U) ?_
  refine Zht 3 U (yd 2 U U U)<|Zht 4 U (ypne U U U)<|Zht 5 U (ym U)<|Zhg 6 U U U (ym U)<|Zhg 7 U U U (yn U)<|Zhg 8 U U U (yf 3 U)<|Zhg 9 U U U (yd 2 U U U)<|Zhg 10 U U U (yn U)<|Zhg 11 U U U (yf 0 U)<|Zhg 12 U U U (yd 1 U U U) ?_
  refine Zhg 13 U U U (yf 3 U)<|Zhg 14 U U U (yd 0 U U U)<|Zhg 15 U U U (yeq U U)<|Zht 16 U (ypt U U)<|ZH1 17<|Zok (c231 ..) [] U U U<|⟨?_,?_⟩
  refine fun a=>Zqh 0 rfl <| Zhn (by kernel_rfl) <| Znx <| Zsr <| Zv (ym rfl) <| Zv (yn rfl) <| Zv (yf 3 rfl) <| Ze (es 2 rfl rfl rfl rfl rfl) <| Zw0 <| Znl ?_
  refine Zxs<|Zy U<|Znr ?_
  rotate_left
  refine fun a=>Zqhp <| Zp1 ?_
  rotate_left
  ·refine Zfx [] giv_f0 U ?_
   refine Zfx [3,3,3,0] (cac_fold (b:=b) (d:=d.noG) ok.noG) U ?_
   refine Zre (.t U .n) (hS.1 (by rw [hgv];exact a)) [0] 2 U U U U
  ·refine Zfx [1] (giv_f1 (b:=bg) (x:=x)) U ?_
   rw [← hgv]
   refine Zfx [2,2,2,0] (cac_fold (b:=b) (d:=d) ok) U ?_
   refine Zpe (hS.2 (by rw [hgv];exact a)) [0] 1 U U
theorem r196 (p:Value):Ct Tryz.prog 196 [p] .returning .returning [] []:=by
 refine ZenS Tryz.func196 U U U U U U (fun _ _=>U) (.inl ⟨U,U,U⟩) fun e X c₀ cs=>?_
 refine Zbl<|Zsr<|Zv (yii Tryz.underlying20 U)<|Zn<|Zct U<|Zrg<|Zy U<|Znl<|Zxn ?_
 refine ZeS [] 0 (fun w' hp=>⟨U,U,hp⟩) U U
theorem p196 (b q t:Nat) (c:Int) (cs cs':List Value) (hc:put cs q (.int .i64 c)=some cs'):Ct Tryz.prog 196 [.pointer (some ⟨b,q,none⟩)] (pa (.iface 348 (.agg #[.int .i64 c])) false) (pa (.iface 348 (.agg #[.int .i64 c])) true) [.blk b t cs] [.blk b t cs']:=by
 refine ZenS Tryz.func196 U U U U U U (fun _ _=>U) (.inr ⟨U,U⟩) fun e X c₀ cs=>?_
 refine Zbl<|Zsr<|Zv (yin Tryz.underlying20 U)<|Zn<|Zcf U<|Zsr<|Zv (yta Tryz.underlying348 U U)<|Zb 2 U ?_
 refine Zn<|Zct U<|Zsr<|Ze (eal z348) fun b3=>Zw<|Ze (esw 0 (m:=1) U U U U U U U)<|Zw0<|Zn<|Zrg<|Zm U ?_
 refine Za 3 [0,0] U U ?_
 refine Ze (es 1 U U U hc U)<|Zw0<|Znl<|Zxn ?_
 refine ZeS [1] 1 (fun w' hp=>⟨U,U,hp⟩) U U
def takeF (d:CD) (m:Msg):CD × List Msg × Int:=
 if chk m≠0∨m.dst≠d.id then (d,[],2)
 else if m.kind=8∨m.kind=9∨m.kind=10 then (if dataG d m=true then (d.setLA (putL d.n d.ways d.L (dataLn m)),[mkM 13 d.id 4 m.line b16z m.hn],0) else (d,[],220))
 else if m.kind=4∨m.kind=5 then (match backG d m with | some (d',bs)=>(d',[mkM 11 d.id 4 m.line bs m.hn],0) | none=>(d,[],220))
 else if m.kind=6 then (if writesB (stateOf d.L m.line)=true then (d,[],220) else (d.setL (dropL d.L m.line),[mkM 12 d.id 4 m.line b16z m.hn],0))
 else if mine d.giv m.line=true then (d.noG,[],0) else (d,[],220)
theorem c143 (b:Nat) (d:CD) (m:Msg):Sp Tryz.prog 143 [pt b,.agg (msgE.arr m)] [.hp (cacC b d)] fun K=>∀ A cap,K (.returned (.tuple #[.slice A (takeF d m).2.1.length cap,.int .i64 (takeF d m).2.2])) [.hp (own msgE A cap (takeF d m).2.1),.hp (cacC b (takeF d m).1)]:=by
 refine ZenD Tryz.func143 U U U fun e X Φ hS=>Zoc 0 cac_op U<|fun ok lb pa pg hha hg=>?_
 refine Zsr<|Ze (ebxE U) fun b3=>Zw<|Zy U<|Ze (eal z34) fun b5=>Zw<|Znq<|Zbl<|Zsr<|Zm U ?_
 refine Zk (c59 ..) [2] U U<|Zq<|Zy U<|Zn<|Zcf U<|Zsq<|Zhd [] U U<|Zht 0 U (ydw 2 (m:=20) U U (Enc.len ..))<|ZH1 1<|Zok (c190 ..) [] U U U ?_
 refine Zqh 0 U<|Zht 2 U (yne U U)<|Zht 3 U (ym U)<|Zhgs 4 U U U (fun h13=>?_) (fun h13=>?_)
 refine Zhu 4 U U (lkn U (dT h13)) U<|Zhu 5 U U (lkn U (dT h13)) U<|Zhu 6 U U (lkn U (dT h13)) U<|Zhu 7 U U (lkn U (dT h13)) U<|Zhu 8 U U (lkn U (dT h13)) U<|Zhu 9 U U (lkn U (dT h13)) U<|Zhu 10 U U (lkn U (dT h13)) U<|Zht 11 U (ypt' U (dT h13) U)<|Zht 12 U (ya U)<|ZHn ?_
 refine Znx<|Zct U<|Zsr<|Zy U<|Ze (es 1 U U U U U)<|Zw0<|Znr<|Zr2<|Zr1 ?_
 rotate_left
 refine Zhg 4 U U (lkn U (dF h13)) (yf 2 U)<|Zhg 5 U U (lkn U (dF h13)) (yd 2 U U U)<|Zhg 6 U U (lkn U (dF h13)) (ym U)<|Zhg 7 U U (lkn U (dF h13)) (yn U)<|Zhg 8 U U (lkn U (dF h13)) (yf 0 U)<|Zhg 9 U U (lkn U (dF h13)) (yd 0 U U U)<|Zhg 10 U U (lkn U (dF h13)) (yne U U)<|Zht 11 U (ypf' U (dF h13) U)<|Zht 12 U (ya U)<|ZHn ?_
 refine Znx<|Zif U (fun h9=>?_) (fun h9=>?_)
 refine Zsr<|Zy U<|Ze (es 1 U U U U U)<|Zw0<|Znr<|Zr2<|Zr1 ?_
 rotate_left
 refine Zsk<|Zxn<|Zxs<|Zdf U<|Zns<|Ze (emk .i64) fun r22=>Zw<|Zm U ?_
 refine Zv (yfn U U)<|Ze (ein 0 U U U U U U Tryz.underlying319 Tryz.underlying114)<|Zw0<|Zm U<|Zv (yfn U U)<|Ze (ein 0 U U U U U U Tryz.underlying319 Tryz.underlying114)<|Zw0<|Zm U<|Zv (yfn U U)<|Ze (ein 0 U U U U U U Tryz.underlying319 Tryz.underlying114)<|Zw0<|Zm U<|Zv (yfn U U) ?_
 refine Ze (ein 0 U U U U U U Tryz.underlying319 Tryz.underlying114)<|Zw0<|Zm U<|Zv (yfn U U)<|Ze (ein 0 U U U U U U Tryz.underlying319 Tryz.underlying114)<|Zw0<|Zm U<|Zv (yfn U U)<|Ze (ein 0 U U U U U U Tryz.underlying319 Tryz.underlying114)<|Zw0<|Zm U<|Zv (yfn U U)<|Ze (ein 0 U U U U U U Tryz.underlying319 Tryz.underlying114)<|Zw0 ?_
 refine Za 3 [0,3] U U ?_
 rotate_left
 ·rw [show takeF d m=(d,[],2) from if_pos (.inl h13)] at hS
  refine Zfx [0,2,2,2] (cac_fold (b:=b) (d:=d) ok) U ?_
  refine Zix (fun _ hs=>sep_nil (E:=msgE) hs)<|ZreD (.t U (.c 2 U U U .n)) (hS _ _) [0,0] 2 U U U U
 ·rw [show takeF d m=(d,[],2) from if_pos (.inr h9)] at hS
  refine Zfx [0,2,2,2] (cac_fold (b:=b) (d:=d) ok) U ?_
  refine Zix (fun _ hs=>sep_nil (E:=msgE) hs)<|ZreD (.t U (.c 2 U U U .n)) (hS _ _) [0,0] 2 U U U U
 ·refine Zfl [1,3,3,3] (cac_fold (b:=b) (d:=d) ok) U ?_
  have h1:¬ (chk m≠0∨m.dst≠d.id):=fun h=>h.elim h13 h9
  have hk:m.kind=8∨m.kind=9∨m.kind=10∨m.kind=4∨m.kind=5∨m.kind=6∨m.kind=7:=by
   have i0:=ok.i0
   have i1:=ok.i1
   have hd:m.dst=d.id:=by simpa using h9
   have hc:goodMsg m=true:=by
    cases hg:goodMsg m with
    | true=>rfl
    | false=>exact absurd (show chk m≠0 by simp [chk,hg]) h13
   simp [goodMsg,homeK,cacheK] at hc
   omega
  have e8:(m.kind=8∨m.kind=9∨m.kind=10)→takeF d m=(if dataG d m=true then (d.setLA (putL d.n d.ways d.L (dataLn m)),[mkM 13 d.id 4 m.line b16z m.hn],0) else (d,[],220)):=fun h=>(if_neg h1).trans (if_pos h)
  have e4:(m.kind=4∨m.kind=5)→takeF d m=(match backG d m with | some (d',bs)=>(d',[mkM 11 d.id 4 m.line bs m.hn],0) | none=>(d,[],220)):=fun h=>(if_neg h1).trans ((if_neg (by omega)).trans (if_pos h))
  have e6:m.kind=6→takeF d m=(if writesB (stateOf d.L m.line)=true then (d,[],220) else (d.setL (dropL d.L m.line),[mkM 12 d.id 4 m.line b16z m.hn],0)):=fun h=>(if_neg h1).trans ((if_neg (by omega)).trans ((if_neg (by omega)).trans (if_pos h)))
  have e7:m.kind=7→takeF d m=(if mine d.giv m.line=true then (d.noG,[],0) else (d,[],220)):=fun h=>(if_neg h1).trans ((if_neg (by omega)).trans ((if_neg (by omega)).trans (if_neg (by omega))))
  rcases hk with hk | hk | hk | hk | hk | hk | hk
  ·rw [e8 (by omega)] at hS
   rw [hk]
   refine Zv (ylk 1 U U U Tryz.underlying319 Tryz.underlying114 zv318)<|Zv (ydw 3 (m:=20) U U (Enc.len ..))<|Zkv (c197 ..) [0] U U U U<|⟨?_,?_⟩
   refine fun a=>fun A=>Zq <| Zv (ya rfl) <| Ze (es 3 rfl rfl rfl rfl rfl) <| Zw0 <| Znl <| Znx <| Zrt ?_
   rotate_left
   refine fun a=>Zqp <| Zp1 ?_
   rotate_left
   ·rw [if_pos a] at hS
    refine ZrD (r196 _) [] U (.t U (.c 3 U U U .n)) (hS _ _) [0,0] 3 U U U
   ·rw [if_neg (by rw [a];decide)] at hS
    refine Zix (fun _ hs=>sep_nil (E:=msgE) hs) ?_
    refine ZpD (p196 _ _ _ _ _ _ U) [3] U (.t U (.c 0 U U U .n)) (hS none 0) [1,1] 3 U U U
  ·rw [e8 (by omega)] at hS
   rw [hk]
   refine Zv (ylk 1 U U U Tryz.underlying319 Tryz.underlying114 zv318)<|Zv (ydw 3 (m:=20) U U (Enc.len ..))<|Zkv (c197 ..) [0] U U U U<|⟨?_,?_⟩
   refine fun a=>fun A=>Zq <| Zv (ya rfl) <| Ze (es 3 rfl rfl rfl rfl rfl) <| Zw0 <| Znl <| Znx <| Zrt ?_
   rotate_left
   refine fun a=>Zqp <| Zp1 ?_
   rotate_left
   ·rw [if_pos a] at hS
    refine ZrD (r196 _) [] U (.t U (.c 3 U U U .n)) (hS _ _) [0,0] 3 U U U
   ·rw [if_neg (by rw [a];decide)] at hS
    refine Zix (fun _ hs=>sep_nil (E:=msgE) hs) ?_
    refine ZpD (p196 _ _ _ _ _ _ U) [3] U (.t U (.c 0 U U U .n)) (hS none 0) [1,1] 3 U U U
  ·rw [e8 (by omega)] at hS
   rw [hk]
   refine Zv (ylk 1 U U U Tryz.underlying319 Tryz.underlying114 zv318)<|Zv (ydw 3 (m:=20) U U (Enc.len ..))<|Zkv (c197 ..) [0] U U U U<|⟨?_,?_⟩
   refine fun a=>fun A=>Zq <| Zv (ya rfl) <| Ze (es 3 rfl rfl rfl rfl rfl) <| Zw0 <| Znl <| Znx <| Zrt ?_
   rotate_left
   refine fun a=>Zqp <| Zp1 ?_
   rotate_left
   ·rw [if_pos a] at hS
    refine ZrD (r196 _) [] U (.t U (.c 3 U U U .n)) (hS _ _) [0,0] 3 U U U
   ·rw [if_neg (by rw [a];decide)] at hS
    refine Zix (fun _ hs=>sep_nil (E:=msgE) hs) ?_
    refine ZpD (p196 _ _ _ _ _ _ U) [3] U (.t U (.c 0 U U U .n)) (hS none 0) [1,1] 3 U U U
  ·rw [e4 (by omega)] at hS
   rw [hk]
   refine Zv (ylk 1 U U U Tryz.underlying319 Tryz.underlying114 zv318)<|Zv (ydw 3 (m:=20) U U (Enc.len ..))<|Zkv (c198 ..) [0] U U U U<|⟨?_,?_⟩
   refine fun d'=>fun bs=>fun a=>fun A=>Zq <| Zv (ya rfl) <| Ze (es 3 rfl rfl rfl rfl rfl) <| Zw0 <| Znl <| Znx <| Zrt ?_
   rotate_left
   refine fun a=>Zqp <| Zp1 ?_
   rotate_left
   ·rw [a] at hS;simp only [] at hS
    refine ZrD (r196 _) [] U (.t U (.c 3 U U U .n)) (hS _ _) [0,0] 3 U U U
   ·rw [a] at hS;simp only [] at hS
    refine Zix (fun _ hs=>sep_nil (E:=msgE) hs) ?_
    refine ZpD (p196 _ _ _ _ _ _ U) [3] U (.t U (.c 0 U U U .n)) (hS none 0) [1,1] 3 U U U
  ·rw [e4 (by omega)] at hS
   rw [hk]
   refine Zv (ylk 1 U U U Tryz.underlying319 Tryz.underlying114 zv318)<|Zv (ydw 3 (m:=20) U U (Enc.len ..))<|Zkv (c198 ..) [0] U U U U<|⟨?_,?_⟩
   refine fun d'=>fun bs=>fun a=>fun A=>Zq <| Zv (ya rfl) <| Ze (es 3 rfl rfl rfl rfl rfl) <| Zw0 <| Znl <| Znx <| Zrt ?_
   rotate_left
   refine fun a=>Zqp <| Zp1 ?_
   rotate_left
   ·rw [a] at hS;simp only [] at hS
    refine ZrD (r196 _) [] U (.t U (.c 3 U U U .n)) (hS _ _) [0,0] 3 U U U
   ·rw [a] at hS;simp only [] at hS
    refine Zix (fun _ hs=>sep_nil (E:=msgE) hs) ?_
    refine ZpD (p196 _ _ _ _ _ _ U) [3] U (.t U (.c 0 U U U .n)) (hS none 0) [1,1] 3 U U U
  ·rw [e6 (by omega)] at hS
   rw [hk]
   refine Zv (ylk 1 U U U Tryz.underlying319 Tryz.underlying114 zv318)<|Zv (ydw 3 (m:=20) U U (Enc.len ..))<|Zkv (c199 ..) [0] U U U U<|⟨?_,?_⟩
   refine fun a=>fun A=>Zq <| Zv (ya rfl) <| Ze (es 3 rfl rfl rfl rfl rfl) <| Zw0 <| Znl <| Znx <| Zrt ?_
   rotate_left
   refine fun a=>Zqp <| Zp1 ?_
   rotate_left
   ·rw [if_neg (by rw [a];decide)] at hS
    refine ZrD (r196 _) [] U (.t U (.c 3 U U U .n)) (hS _ _) [0,0] 3 U U U
   ·rw [if_pos a] at hS
    refine Zix (fun _ hs=>sep_nil (E:=msgE) hs) ?_
    refine ZpD (p196 _ _ _ _ _ _ U) [3] U (.t U (.c 0 U U U .n)) (hS none 0) [1,1] 3 U U U
  ·rw [e7 (by omega)] at hS
   rw [hk]
   refine Zv (ylk 1 U U U Tryz.underlying319 Tryz.underlying114 zv318)<|Zv (ydw 3 (m:=20) U U (Enc.len ..))<|Zkv (c200 ..) [0] U U U U<|⟨?_,?_⟩
   refine fun a=>Zq <| Zv (ya rfl) <| Ze (es 2 rfl rfl rfl rfl rfl) <| Zw0 <| Znl <| Znx <| Zrt ?_
   rotate_left
   refine fun a=>Zqp <| Zp1 ?_
   rotate_left
   ·rw [if_pos a] at hS
    refine Zix (fun _ hs=>sep_nil (E:=msgE) hs) ?_
    refine ZrD (r196 _) [] U (.t U (.c 3 U U U .n)) (hS none 0) [0,0] 3 U U U
   ·rw [if_neg (by rw [a];decide)] at hS
    refine Zix (fun _ hs=>sep_nil (E:=msgE) hs) ?_
    refine ZpD (p196 _ _ _ _ _ _ U) [3] U (.t U (.c 0 U U U .n)) (hS none 0) [1,1] 3 U U U
def newD (i:Int) (n:Nat) (ways:Int):CD:=⟨i,n,ways,[],none,none⟩
theorem new_ok {i:Int} {n:Nat} {ways:Int} (h:rightB n ways=true) (h0:0≤i) (h1:i<4):(newD i n ways).Ok:=by
 obtain ⟨r1,r2,r3,r4,r5⟩:=right_yes h
 exact ⟨h0,h1,by show 0<n;omega,by show n≤64;omega,by show 1≤ways;omega,by show ways≤8;omega,List.Pairwise.nil,Fits.nil (by show 0≤ways;omega),fun _ _ e=>by cases e⟩
theorem c75 (i:Int) (n:Nat) (ways:Int) (h0:0≤i) (h1:i<4):Sp Tryz.prog 75 [.int .i64 i,.int .i64 (n:Int),.int .i64 ways] [] fun K=>(rightB n ways=true→∀ b,K (.returned (.tuple #[pt b,.int .i64 0])) [.hp (cacC b (newD i n ways))])∧(rightB n ways=false→K (.returned (.tuple #[.pointer none,.int .i64 2])) []):=by
 refine Zen Tryz.func75 U U U fun e X Φ hS=>Zsr<|Zb 2 U<|Zns<|Zb 2 U<|Zk (c122 ..) [] U U ?_
 refine ⟨?_,?_⟩
 refine fun a=>fun b=>Zq <| Zv (ym rfl) <| Zv (yx rfl rfl) <| Zv (yx rfl rfl) <| Zv (ya rfl) <| Zv (ya rfl) <| Znl <| Znx ?_
 refine Zsq<|Zsr<|Zb 6 U ?_
 refine Zm U<|Zg' U U (dF (by omega))<|Zm U<|Zg' U U (dF (by omega))<|Zv (yge U U)<|Zv (ypf' U (dF (by omega)) U)<|Zn<|Zcf' U (dF (by omega))<|Zsk ?_
 refine Zxs<|Zb 2 U<|Zv (yb l155 U)<|Ze (ebx U) fun b29=>Zw<|Zb 2 U<|Zn ?_
 refine Zrt ?_
 rotate_left
 refine fun a=>Zq <| Zv (ym rfl) <| Zv (yx rfl rfl) <| Zv (yx rfl rfl) <| Zv (ya rfl) <| Zv (ya rfl) <| Znl <| Znx <| Zsq ?_
 refine Zsr<|Zb 9 U ?_
 refine Zv (ypt U U)<|Zn<|Zct U<|Zsr<|Zb 2 U<|Znr ?_
 refine Zr1 ?_
 rotate_left
 ·refine Zfx [] (ask_f0) U ?_
  refine Zfx [] (giv_f0) U ?_
  refine Zfx [2,2,1,0] (cac_fold (b:=b29) (d:=newD i n ways) (new_ok a h0 h1)) U ?_
  refine Zre (.t U (.t U .n)) (hS.1 a b29) [0] 0 U U U U
 ·refine Zre (.t U (.t U .n)) (hS.2 a) [] 0 U U U U
theorem ask_n {a:Option (Int × Bool)} (e:a=none):∀ h,Sep [] h→askC none a h:=fun _ _=>by subst e;rfl
theorem giv_n {a:Option Ln} (e:a=none):∀ h,Sep [] h→givC none a h:=fun _ _=>by subst e;rfl
theorem ask_s {a:Option (Int × Bool)} {b:Nat} {l:Int} {wr:Bool} (e:a=some (l,wr)):∀ h,Sep [.blk b 196 [.int .u32 l,.bool wr]] h→askC (some ⟨b,0,none⟩) a h:=fun _ hs=>by subst e;exact ⟨b,rfl,hs⟩
theorem giv_s {a:Option Ln} {b:Nat} {x:Ln} (e:a=some x):∀ h,Sep [.blk b 145 (lnE.cells x)] h→givC (some ⟨b,0,none⟩) a h:=fun _ hs=>by subst e;exact ⟨b,rfl,hs⟩
theorem c42 (b:Nat) (d:CD):Sp Tryz.prog 42 [pt b] [.hp (cacC b d)] fun K=>∀ b',K (.returned (pt b')) [.hp (cacC b' d),.hp (cacC b d)]:=by
 refine Zen Tryz.func42 U U U fun e X Φ hS=>Zoc 0 cac_op U<|fun ok lb pa pg hha hg=>?_
 refine Zsr<|Zy U<|Znqs<|Zm U<|Zk (c59 ..) [0] U U<|Zq<|Znl ?_
 refine Znx<|Zcf U<|Zkn<|Zsq ?_
 refine Zhd [1] U U<|Zht 0 U (ym U)<|Zht 1 U (yn U)<|Zht 2 U (yf 0 U)<|Zht 3 U (yd 0 U U U)<|Zht 4 U (ym U)<|Zht 5 U (yn U)<|Zht 6 U (yf 1 U)<|Zht 7 U (yd 0 U U U) ?_
 refine ZH1 8<|Zok (c84 lb d.n d.ways d.L (by have:=ok.w0;omega) (Nat.le_trans ok.len (by decide))) [0] U U U<|fun b'=>Zqh 2 U<|Zht 9 U (yb l155 U)<|ZH1 10<|Zoe U (ebx U) fun b18=>Zwh 3 U<|Zht 11 U (ya U)<|ZHn<|Znx ?_
 rcases Option.eq_none_or_eq_some d.ask with hak | ⟨⟨l,wr⟩,hak⟩
 ·have h1:=none_of hha hak
  subst h1
  rcases Option.eq_none_or_eq_some d.giv with hgv | ⟨x,hgv⟩
  ·have h2:=none_of hg hgv
   subst h2
   refine Zsq<|Zsr<|Za 4 [2,3] U U<|Zv (ypne U U U)<|Zn<|Zcf U ?_
   refine Zkn<|Zsq<|Zsr<|Za 4 [3,3] U U<|Zv (ypne U U U)<|Znl ?_
   refine Znx<|Zcf U<|Zks<|Zb 2 U<|Znr ?_
   refine Zfx [3,2,2,2] (cac_fold (b:=b) (d:=d) ok) U ?_
   refine Zfx [] (ask_n hak) U ?_
   refine Zfx [] (giv_n hgv) U ?_
   refine Zfx [3,3,1,0] (cac_fold (b:=b18) (d:=d) ok) U<|Zre (.t U .n) (hS _) [0,0] 0 U U U U
  ·rw [hgv]
   refine Zoc 5 giv_op1 U<|fun bg eg=>?_
   subst eg
   refine Zsq<|Zsr<|Za 4 [2,4] U U<|Zv (ypne U U U)<|Zn<|Zcf U ?_
   refine Zkn<|Zsq<|Zsr<|Za 4 [3,4] U U<|Zv (ypne U U U)<|Znl ?_
   refine Znx<|Zct U<|Zsr<|Za 5 [3,4] U U<|Zv (ydw 0 (m:=18) U U (Enc.len ..))<|Ze (eal z145) fun b5=>Zw ?_
   refine Ze (esw 0 (m:=18) U U U U U (Enc.len ..) (Enc.allL ..))<|Zw0<|Zn<|Zrg<|Za 3 [3] U U<|Ze (es 2 U U U U U)<|Zw0<|Zn ?_
   refine Zsr<|Zb 2 U<|Znr ?_
   refine Zfx [1] (giv_s (b:=bg) hgv) U ?_
   refine Zfx [5,4,4,0] (cac_fold (b:=b) (d:=d) ok) U ?_
   refine Zfx [] (ask_n hak) U ?_
   refine Zfx [2] (giv_s (b:=b5) hgv) U ?_
   refine Zfx [3,3,1,0] (cac_fold (b:=b18) (d:=d) ok) U<|Zre (.t U .n) (hS _) [0,0] 0 U U U U
 ·rw [hak]
  refine Zoc 4 ask_op1 U<|fun ba ea=>?_
  subst ea
  rcases Option.eq_none_or_eq_some d.giv with hgv | ⟨x,hgv⟩
  ·have h2:=none_of hg hgv
   subst h2
   refine Zsq<|Zsr<|Za 4 [2,4] U U<|Zv (ypne U U U)<|Zn<|Zct U ?_
   refine Zsr<|Za 5 [2,4] U U<|Zv (ydw 0 (m:=2) U U U)<|Ze (eal z196) fun b4=>Zw<|Ze (esw 0 (m:=2) U U U U U U U)<|Zw0<|Znl ?_
   refine Znx<|Zrg<|Za 3 [2] U U<|Ze (es 2 U U U U U)<|Zw0<|Znqs ?_
   refine Za 4 [3,5] U U<|Zv (ypne U U U)<|Zn<|Zcf U<|Zkn ?_
   refine Zsr<|Zb 2 U<|Znr ?_
   refine Zfx [1] (ask_s (b:=ba) hak) U ?_
   refine Zfx [5,4,0,3] (cac_fold (b:=b) (d:=d) ok) U ?_
   refine Zfx [1] (ask_s (b:=b4) hak) U ?_
   refine Zfx [] (giv_n hgv) U ?_
   refine Zfx [3,3,1,0] (cac_fold (b:=b18) (d:=d) ok) U<|Zre (.t U .n) (hS _) [0,0] 0 U U U U
  ·rw [hgv]
   refine Zoc 5 giv_op1 U<|fun bg eg=>?_
   subst eg
   refine Zsq<|Zsr<|Za 4 [2,5] U U<|Zv (ypne U U U)<|Zn<|Zct U ?_
   refine Zsr<|Za 5 [2,5] U U<|Zv (ydw 1 (m:=2) U U U)<|Ze (eal z196) fun b4=>Zw<|Ze (esw 0 (m:=2) U U U U U U U)<|Zw0<|Znl ?_
   refine Znx<|Zrg<|Za 3 [2] U U<|Ze (es 3 U U U U U)<|Zw0<|Znqs ?_
   refine Za 4 [3,6] U U<|Zv (ypne U U U)<|Zn<|Zct U<|Zsr<|Zm U ?_
   refine Za 4 [3,6] U U<|Zv (ydw 1 (m:=18) U U (Enc.len ..))<|Ze (eal z145) fun b5=>Zw<|Ze (esw 0 (m:=18) U U U U U (Enc.len ..) (Enc.allL ..))<|Zw0<|Zn<|Zrg ?_
   refine Za 3 [3] U U<|Ze (es 4 U U U U U)<|Zw0<|Zns<|Zb 2 U<|Znl ?_
   refine Zxr ?_
   refine Zfx [3] (ask_s (b:=ba) hak) U ?_
   refine Zfx [3] (giv_s (b:=bg) hgv) U ?_
   refine Zfx [7,6,1,0] (cac_fold (b:=b) (d:=d) ok) U ?_
   refine Zfx [2] (ask_s (b:=b4) hak) U ?_
   refine Zfx [2] (giv_s (b:=b5) hgv) U ?_
   refine Zfx [3,3,1,0] (cac_fold (b:=b18) (d:=d) ok) U<|Zre (.t U .n) (hS _) [0,0] 0 U U U U
def fetF (code:List Int) (pc:Int):Int × Bool:=if pc.tmod 4≠0 then (0,false) else match code[(pc.tdiv 4).toNat]? with | some w=>(w,true) | none=>(0,false)
theorem c127 (c:Ck) (A:Option Addr) (cap:Nat) (code:List Int) (pc:Int) (hR:Rd u32E c A cap code) (hp:0≤pc∧pc<4294967296) (hl:code.length≤1048576):Sp Tryz.prog 127 [.slice A code.length cap,.int .u32 pc] [c] fun K=>K (.returned (.tuple #[.int .u32 (fetF code pc).1,.bool (fetF code pc).2])) [c]:=by
 have he:IntKind.u32.wrap (pc.tdiv 4)=(((pc.tdiv 4).toNat:Nat):Int):=by
  have h1:0≤pc.tdiv 4:=Int.tdiv_nonneg hp.1 (by decide)
  have h2:pc.tdiv 4≤pc:=by
   rw [Int.tdiv_eq_ediv_of_nonneg hp.1]
   omega
  exact u32w (by omega) (by omega)
 have hq:(pc.tdiv 4).toNat<4294967296:=by
  have h2:pc.tdiv 4≤pc:=by
   rw [Int.tdiv_eq_ediv_of_nonneg hp.1]
   omega
  omega
 refine Zen Tryz.func127 U U U fun e X Φ hS=>Zsr<|Zb 2 U<|Znqs<|Zm U<|Zv (yrem U U (by decide) U) ?_
 refine Zb 2 U<|Zgs U U (fun h9=>?_) (fun h9=>?_)
 refine Zu' U U (dT h9) U<|Zu' U U (dT h9) U<|Zu' U U (dT h9) U<|Zu' U U (dT h9) U<|Zu' U U (dT h9) U<|Zu' U U (dT h9) U<|Zv (ypt' U (dT h9) U)<|Zn<|Zct U ?_
 refine Zsr<|Zb 2 U<|Znr<|Zr1<|Zre (.t U (.t U .n)) hS [0] 0 ?_ U U U
 rotate_left
 refine Zg' U U (dF h9)<|Zm U<|Zg' U U (dF h9)<|Zv (yquo U U (by decide) U)<|Zg' U U (dF h9)<|Zv (ycv Tryz.underlying40 Tryz.underlying2 U (i64w U (by omega)))<|Zg' U U (dF h9)<|Zm U<|Zg' U U (dF h9)<|Zv (sl_of ⟨_,Tryz.underlying62⟩ U) ?_
 refine Zg' U U (dF h9)<|Zv (yge U U)<|Zv (ypf' U (dF h9) U)<|Zn<|Zif U (fun h16=>?_) (fun h16=>?_)
 refine Zsr<|Zb 2 U<|Znr<|Zr1<|Zre (.t U (.t U .n)) hS [0] 0 ?_ U U U
 rotate_left
 refine Zks<|Zb 2 U<|Zv (yquo U U (by decide) U) ?_
 rotate_left
 ·rw [show fetF code pc=(0,false) from if_pos h9]
  rfl
 ·try rw [he] at h16
  have hn:code[(pc.tdiv 4).toNat]? = none:=List.getElem?_eq_none (by omega)
  rw [show fetF code pc=(0,false) by unfold fetF;rw [if_neg h9,hn]]
  rfl
 ·try rw [he] at h16
  have hlt:(pc.tdiv 4).toNat<code.length:=by omega
  rw [he]
  rw [show fetF code pc=(code[(pc.tdiv 4).toNat],true) by unfold fetF;rw [if_neg h9,gE hlt]] at hS
  refine Zv (yea 0 hR U U U (by first | assumption | omega) U Tryz.underlying62 U)<|Zv (yec (m:=0) 0 hR U (gE (by first | assumption | omega)) U U U)<|Zb 2 U<|Znr<|Zre (.t U (.t U .n)) hS [0] 0 U U U U
structure Cor where
 h:Hrt
 code:List Int
 size:Int
 B:List Sto
 first:Int
 res:Option Int
structure Cor.Ok (k:Nat) (c:Cor):Prop where
 h:c.h.Ok
 cu:∀ a∈c.code,U32 a
 cl:c.code.length≤1024
 s0:0≤c.size
 s1:c.size≤4096
 f0:0≤c.first
 f1:c.first≤k
 res:∀ a,c.res=some a→U32 a
theorem Cor.Ok.mono {k k':Nat} {c:Cor} (h:c.Ok k) (hk:k≤k'):c.Ok k':={ h with f1:=by have:=h.f1;omega }
def coreCs (h:Hrt) (tl:List Value):List Value:=hrtE.cells h++tl
theorem nt_core {h:Hrt} {tl:List Value} {q:Nat} {v:Value} (j:Nat) (hq:q=35+j) (hv:nth tl j=some v):nth (coreCs h tl) q=some v:=by
 subst hq
 rw [nth_eq] at *
 unfold coreCs
 rw [List.getElem?_append_right (by rw [show (hrtE.cells h).length=35 from h.len];omega),show (hrtE.cells h).length=35 from h.len,Nat.add_sub_cancel_left]
 exact hv
theorem nt_cca (h:Hrt) (tl:List Value):nth (coreCs h tl) 34=some (.int .i64 h.cause):=by
 have:=nt_cause h
 rw [nth_eq] at *
 unfold coreCs
 rw [List.getElem?_append_left (by rw [show (hrtE.cells h).length=35 from h.len];decide)]
 exact this
theorem put_app:∀ (a:List Value) {tl tl':List Value} {j:Nat} {v:Value},put tl j v=some tl'→put (a++tl) (a.length+j) v=some (a++tl')
 | [],tl,tl',j,v,h=>by simpa using h
 | x::a,tl,tl',j,v,h=>by
  have:=put_app a h
  rw [show (x::a).length+j=(a.length+j)+1 by simp only [List.length_cons];omega]
  simp [put,this]
theorem pt_core {h:Hrt} {tl tl':List Value} {q:Nat} {v:Value} (j:Nat) (hq:q=35+j) (hv:put tl j v=some tl'):put (coreCs h tl) q v=some (coreCs h tl'):=by
 subst hq
 have:=put_app (hrtE.cells h) hv
 rwa [show (hrtE.cells h).length=35 from h.len] at this
theorem put_appL:∀ (a a':List Value) {tl:List Value} {j:Nat} {v:Value},put a j v=some a'→put (a++tl) j v=some (a'++tl)
 | [],_,_,_,_,h=>by cases h
 | x::a,a',tl,0,v,h=>by cases h;rfl
 | x::a,a',tl,j+1,v,h=>by
  cases hp:put a j v with
  | none=>simp [put,hp] at h
  | some b=>
   simp [put,hp] at h
   subst h
   simp [put,put_appL a b hp]
theorem pt_cca (h:Hrt) (tl:List Value) (v:Int):put (coreCs h tl) 34 (.int .i64 v)=some (coreCs (h.setCause v) tl):=put_appL _ _ (pt_cause h v)
theorem core_hart (h:Hrt) (tl:List Value):((coreCs h tl).drop 0).take 35=hrtE.cells h:=by
 unfold coreCs
 rw [List.drop_zero,List.take_left' (show (hrtE.cells h).length=35 from h.len)]
theorem core_set (h h':Hrt) (tl:List Value):spl (coreCs h tl) 0 (hrtE.cells h')=coreCs h' tl:=by
 unfold coreCs
 show hrtE.cells h'++(hrtE.cells h++tl).drop (hrtE.cells h').length=_
 rw [show (hrtE.cells h').length=(hrtE.cells h).length from h'.len.trans h.len.symm,List.drop_left]
def resC (p:Option Addr):Option Int→HP
 | none=>fun _=>p=none
 | some a=>fun h=>∃ b,p=some ⟨b,0,none⟩∧Sep [.blk b 40 [.int .u32 a]] h
theorem resC.is {p:Option Addr} {a:Option Int} {h:Hl} (hh:resC p a h):p.isSome=a.isSome:=by
 cases a with
 | none=>rw [show p=none from hh];rfl
 | some x=>obtain ⟨b,e,_⟩:=hh;rw [e];rfl
theorem res_op1 {p:Option Addr} {a:Int}:Op_ (resC p (some a)) fun K=>∀ b,p=some ⟨b,0,none⟩→K [.blk b 40 [.int .u32 a]] := .mk fun G k h hh=>by
 obtain ⟨b,e,hs⟩:=hh
 exact ⟨_,k b e,hs⟩
theorem res_n {a:Option Int} (e:a=none):∀ h,Sep [] h→resC none a h:=fun _ _=>by subst e;rfl
theorem res_s {a:Option Int} {b:Nat} {x:Int} (e:a=some x):∀ h,Sep [.blk b 40 [.int .u32 x]] h→resC (some ⟨b,0,none⟩) a h:=fun _ hs=>by subst e;exact ⟨b,rfl,hs⟩
abbrev corTl (c:Cor) (A:Option Addr) (cap bb:Nat) (pr:Option Addr):List Value:=[.slice A c.code.length cap,.int .i64 c.size,pt bb,.int .i64 c.first,.pointer pr]
def corC (k b:Nat) (c:Cor):HP:=fun g=>c.Ok k∧∃ A cap bb pr,Sep [.blk b 139 (coreCs c.h (corTl c A cap bb pr)),.hp (own u32E A cap c.code),.hp (bufC bb c.B),.hp (resC pr c.res)] g
theorem cor_op {k b:Nat} {c:Cor}:Op_ (corC k b c) fun K=>c.Ok k→∀ A cap bb pr,pr.isSome=c.res.isSome→K [.blk b 139 (coreCs c.h (corTl c A cap bb pr)),.hp (own u32E A cap c.code),.hp (bufC bb c.B),.hp (resC pr c.res)] := .mk fun G k h hh=>by
 obtain ⟨ok,A,cap,bb,pr,hs⟩:=hh
 obtain ⟨_,_,ha⟩:=hs.nth (i:=3) rfl
 exact ⟨_,k ok A cap bb pr ha.is,hs⟩
theorem cor_fold {k b cap bb:Nat} {c:Cor} {A pr:Option Addr} (ok:c.Ok k):∀ h,Sep [.blk b 139 (coreCs c.h (corTl c A cap bb pr)),.hp (own u32E A cap c.code),.hp (bufC bb c.B),.hp (resC pr c.res)] h→corC k b c h:=fun _ hs=>⟨ok,A,cap,bb,pr,hs⟩
theorem cor_mono {k k' b:Nat} {c:Cor} (hk:k≤k'):∀ g,Sep [.hp (corC k b c)] g→corC k' b c g:=fun g hs=>by
 obtain ⟨h1,h2,hle,_,_,⟨ok,A,cap,bb,pr,hp⟩,_⟩:=hs
 exact ⟨ok.mono hk,A,cap,bb,pr,hp.up hle⟩
def Cor.setH (c:Cor) (h:Hrt):Cor:=⟨h,c.code,c.size,c.B,c.first,c.res⟩
def Cor.setB (c:Cor) (B:List Sto):Cor:=⟨c.h,c.code,c.size,B,c.first,c.res⟩
def Cor.setF (c:Cor) (f:Int):Cor:=⟨c.h,c.code,c.size,c.B,f,c.res⟩
def Cor.setR (c:Cor) (r:Option Int):Cor:=⟨c.h,c.code,c.size,c.B,c.first,r⟩
theorem res_no {p:Option Addr} {a:Option Int} (h:p.isSome=a.isSome) (hp:p.isNone=true):a=none:=by
 cases p with
 | none=>cases a with | none=>rfl | some x=>cases h
 | some x=>cases hp
theorem c53 (k b:Nat) (c:Cor):Sp Tryz.prog 53 [pt b] [.hp (corC k b c)] fun K=>K (.returned (.bool false)) [.hp (corC k b c)]:=by
 refine Zen Tryz.func53 U U U fun e X Φ hS=>Zoc 0 cor_op U<|fun ok A cap bb pr hpr=>?_
 refine Zsr<|Zy U<|Zns<|Zm U<|Zv (ypeq U U U)<|Zb 2 U ?_
 refine Za 2 [37] U U<|Zg U U<|Zv (yd 0 U U (nt_core 2 U U))<|Zg U U<|Zv (ypeq U U U)<|Zb 2 U ?_
 refine Znr ?_
 refine Zfx [0,0,0,0] (cor_fold (c:=c) ok) U<|Zre (.t U .n) hS [0] 0 U U U U
theorem c145 (k b:Nat) (c:Cor):Sp Tryz.prog 145 [pt b] [.hp (corC k b c)] fun K=>K (.returned (.bool c.res.isSome)) [.hp (corC k b (c.setR none))]:=by
 refine Zen Tryz.func145 U U U fun e X Φ hS=>Zsr<|Zy U<|Znqs<|Zm U<|Zk (c53 ..) [0] U U<|Zq ?_
 refine Za 4 [39] U U<|Zg U U ?_
 refine Zol 0 cor_op U<|fun ok A cap bb pr hpr=>Zv (yd 0 U U (nt_core 4 U U))<|Zg U U<|Zv (ypeq U U U)<|Zv (ypf U U)<|Zn<|Zib U (fun h11=>?_) (fun h11=>?_)
 refine Zsr<|Zy U<|Znr<|Zr1 ?_
 rotate_left
 refine Zks<|Za 3 [39] U U<|Ze (es 0 U U U (pt_core 4 U U) U)<|Zw0<|Zns ?_
 refine Zy U<|Znr ?_
 rotate_left
 ·have hr:=res_no hpr h11
  have hc:c.setR none=c:=by unfold Cor.setR;rw [← hr]
  rw [hc,show c.res.isSome=false by rw [hr];rfl] at hS
  refine Zfx [0,0,0,0] (cor_fold (c:=c) ok) U<|Zre (.t U .n) hS [0] 0 U U U U
 ·rw [← hpr,show pr.isSome=true by cases pr with | none=>cases h11 | some x=>rfl] at hS
  have ok':(c.setR none).Ok k:={ ok with res:=fun x h=>(by cases h) }
  refine Zfx [] (res_n (a:=none) U) U ?_
  refine Zfx [1,1,1,0] (cor_fold (c:=c.setR none) ok') U<|Zre (.t U .n) hS [0] 1 U U U U
def lostB (c:Cor) (d:CD):Bool:=match c.res with | none=>false | some a=>decide (stateOf d.L (a/16)=0)
theorem u32_q {a:Int} (h:U32 a):IntKind.u32.wrap (a.tdiv 16)=a/16∧U32 (a/16):=by
 unfold U32 at *
 rw [Int.tdiv_eq_ediv_of_nonneg h.1,u32w (r:=a/16) rfl (by omega)]
 exact ⟨rfl,by omega⟩
theorem c52 (k b bk:Nat) (c:Cor) (d:CD):Sp Tryz.prog 52 [pt b,pt bk] [.hp (corC k b c),.hp (cacC bk d)] fun K=>K (.returned (.bool (lostB c d))) [.hp (corC k b (if lostB c d then c.setR none else c)),.hp (cacC bk d)]:=by
 refine Zen Tryz.func52 U U U fun e X Φ hS=>Zsr<|Zy U<|Znqs<|Zm U<|Zk (c53 ..) [0] U U<|Zq ?_
 refine Za 4 [39] U U<|Zg U U ?_
 refine Zol 0 cor_op U<|fun ok A cap bb pr hpr=>Zv (yd 0 U U (nt_core 4 U U))<|Zg U U<|Zv (ypeq U U U)<|Zb 2 U<|Zgb U U (fun h14=>?_) (fun h14=>?_)
 refine Zu' U U h14 U<|Zu' U U h14 U<|Zu' U U h14 U<|Zu' U U h14 U<|Zu' U U h14 U<|Zu' U U h14 U<|Zu' U U h14 U<|Zu' U U h14 U<|Zu' U U h14 U<|Zu' U U h14 U ?_
 refine Zv (ypt' U h14 U)<|Zn<|Zct U<|Zsr<|Zy U<|Znr<|Zr1 ?_
 rotate_left
 refine Zg' U U h14<|Zm U<|Zg' U U h14<|Zm U<|Zg' U U h14<|Zv (yn U)<|Zg' U U h14<|Zv (yf 39 U)<|Zg' U U h14<|Zv (yd 0 U U (nt_core 4 U U)) ?_
 refine Zg' U U h14 ?_
 rotate_left
 ·have hr:=res_no hpr h14
  have hl:lostB c d=false:=by unfold lostB;rw [hr]
  rw [hl,if_neg (by decide)] at hS
  refine Zfx [0,0,0,0] (cor_fold (c:=c) ok) U<|Zre (.t U .n) hS [0,0] 0 U U U U
 ·obtain ⟨a,hr⟩:∃ a,c.res=some a:=by
   cases hx:c.res with
   | some a=>exact ⟨a,rfl⟩
   | none=>rw [hx] at hpr;cases pr with | none=>cases h14 | some x=>cases hpr
  have hl:lostB c d=decide (stateOf d.L (a/16)=0):=by unfold lostB;rw [hr]
  obtain ⟨q1,q2⟩:=u32_q (ok.res a hr)
  rw [hr]
  refine Zol 3 res_op1 U<|fun ba ea=>?_
  subst ea
  refine Za 2 [0] U U<|Zg U U<|Zv (yquo U U (by decide) U)<|Zg U U ?_
  rw [q1]
  refine Zk (c97 bk d (a/16) q2) [4] U U<|Zq<|Zb 2 U<|Zn<|Zif U (fun h25=>?_) (fun h25=>?_)
  refine Zsr<|Zy U<|Znr<|Zr1 ?_
  rotate_left
  refine Zks<|Za 3 [39] U U<|Ze (es 2 U U U (pt_core 4 U U) U)<|Zw0<|Zns ?_
  refine Zy U<|Znr ?_
  rotate_left
  ·rw [hl,dF h25,if_neg (by decide)] at hS
   refine Zfx [1] (res_s (b:=ba) hr) U ?_
   refine Zfx [2,2,2,0] (cor_fold (c:=c) ok) U<|Zre (.t U .n) hS [0,0] 0 U U U U
  ·rw [hl,dT (Decidable.not_not.1 h25),if_pos rfl] at hS
   have ok':(c.setR none).Ok k:={ ok with res:=fun x h=>(by cases h) }
   refine Zfx [] (res_n (a:=none) U) U ?_
   refine Zfx [3,3,3,0] (cor_fold (c:=c.setR none) ok') U<|Zre (.t U .n) hS [0,0] 1 U U U U
theorem c83 (c:Ck) (A:Option Addr) (cap:Nat) (l:List Int) (hR:Rd u32E c A cap l) (hA:A=none→l=[]∧cap=0) (hl:l.length≤1048576):Sp Tryz.prog 83 [.slice A l.length cap] [c] fun K=>∀ A' cap',K (.returned (.slice A' l.length cap')) [.hp (own u32E A' cap' l),c]:=by
 cases A with
 | none=>
  obtain ⟨rfl,rfl⟩:=hA rfl
  refine Zen Tryz.func83 U U U fun e X Φ hS=>Zsr<|Zy U<|Znqs<|Zm U<|Zv (ysleq ⟨_,Tryz.underlying62⟩ U U)<|Znl ?_
  refine Znx<|Zct U<|Zsr<|Zy U<|Znr<|Zr1 ?_
  refine Zix (fun _ hs=>sep_nil (E:=u32E) hs)<|Zre (.t U .n) (hS _ _) [0,0] 0 U U U U
 | some a=>
  refine Zen Tryz.func83 U U U fun e X Φ hS=>Zsr<|Zy U<|Znqs<|Zm U<|Zv (ysleq ⟨_,Tryz.underlying62⟩ U U)<|Znl ?_
  refine Znx<|Zcf U<|Zks ?_
  refine Ze (eb0' elU32)<|fun B=>Zw<|Zm U ?_
  have hm:([]:List Int).length+l.length≤maxLen:=ml_le (by simp;omega)
  refine Ze (eap' 0 1 elU32 U U U hR U U U (fun _ _=>U) (by simp;omega) hm)<|fun A' cap'=>Zw<|Zy U<|Znr<|Zre (.t U .n) (hS _ _) [0,0] 0 U U U U
theorem hrt0_ok {i:Int} (h0:0≤i) (h1:i<4):(hrt0 i).Ok:=by
 have hr:∀ k,(hrt0 i).reg k=0:=fun k=>by
  show (List.replicate 32 (0:Int)).getD k 0=0
  rw [List.getD_eq_getElem?_getD,List.getElem?_replicate]
  split <;> rfl
 exact ⟨h0,h1,⟨Int.le_refl 0,by show (0:Int)<4294967296;decide⟩,hr 0,fun k=>by rw [hr];exact ⟨Int.le_refl 0,by decide⟩,Int.le_refl 0,by show (0:Int)≤4;decide⟩
theorem c73 (i:Int) (c:Ck) (A:Option Addr) (cap:Nat) (l:List Int) (size:Int) (h0:0≤i) (h1:i<4) (hR:Rd u32E c A cap l) (hA:A=none→l=[]∧cap=0) (hu:∀ a∈l,U32 a):Sp Tryz.prog 73 [.int .i64 i,.slice A l.length cap,.int .i64 size] [c] fun K=>
  ((l.length≤1024∧0≤size∧size≤4096)→∀ b,K (.returned (.tuple #[pt b,.int .i64 0])) [.hp (corC 0 b ⟨hrt0 i,l,size,[],0,none⟩),c])∧(¬ (l.length≤1024∧0≤size∧size≤4096)→K (.returned (.tuple #[.pointer none,.int .i64 2])) [c]):=by
 refine Zen Tryz.func73 U U U fun e X Φ hS=>Zsr<|Zb 2 U<|Znqs<|Zb 2 U ?_
 refine Zm U<|Zg' U U (dF (by omega))<|Zm U<|Zg' U U (dF (by omega))<|Zv (yge U U)<|Zv (ypf' U (dF (by omega)) U)<|Zm U<|Zg' U U (dF (by omega))<|Zm U<|Zg' U U (dF (by omega)) ?_
 refine Zv (sl_of ⟨_,Tryz.underlying62⟩ U)<|Zg' U U (dF (by omega))<|Zv (ygt U U)<|Zv (ypf' U (dF (by omega)) U)<|Zm U<|Zgs U U (fun h19=>?_) (fun h19=>?_)
 refine Zu' U U (dT h19) U<|Zu' U U (dT h19) U<|Zv (ypt' U (dT h19) U)<|Zb 4 U<|Zn<|Zct U ?_
 refine Zsr<|Zb 2 U<|Znr<|Zr1 ?_
 rotate_left
 refine Zg' U U (dF h19)<|Zm U<|Zg' U U (dF h19)<|Zv (ylt U U)<|Zv (ypf' U (dF h19) U)<|Zm U<|Zgs U U (fun h23=>?_) (fun h23=>?_)
 refine Zu' U U (dT h23) U<|Zu' U U (dT h23) U<|Zv (ypt' U (dT h23) U)<|Zn<|Zct U<|Zsr<|Zb 2 U<|Znl ?_
 refine Zxr<|Zr1 ?_
 rotate_left
 refine Zg' U U (dF h23)<|Zm U<|Zg' U U (dF h23)<|Zv (ygt U U)<|Zv (ypf' U (dF h23) U)<|Zn<|Zif U (fun h26=>?_) (fun h26=>?_)
 refine Zsr<|Zb 2 U<|Znr<|Zr1 ?_
 rotate_left
 refine Zks<|Zm U<|Zv (yb l59 U)<|Zm U ?_
 rotate_left
 ·refine Zre (.t U (.t U .n)) (hS.2 (by omega)) [0] 0 U U U U
 ·refine Zre (.t U (.t U .n)) (hS.2 (by omega)) [0] 0 U U U U
 ·refine Zre (.t U (.t U .n)) (hS.2 (by omega)) [0] 0 U U U U
 ·have okc:(⟨hrt0 i,l,size,[],0,none⟩:Cor).Ok 0:=⟨hrt0_ok h0 h1,hu,by show l.length≤1024;omega,by show 0≤size;omega,by show size≤4096;omega,Int.le_refl 0,Int.le_refl 0,fun a h=>(by cases h)⟩
  refine Zk (c83 c A cap l hR hA (by omega)) [0] U U<|fun A'=>fun cap'=>Zq<|Zm U<|Zv (yb l135 U)<|Zk (c121 ..) [] U U<|fun b=>Zq<|Zv (yb l139 U) ?_
  refine Ze (ebx U) fun b35=>Zw<|Zb 2 U<|Znr ?_
  refine Zfx [] (res_n (a:=none) U) U ?_
  refine Zfx [1,2,1,0] (cor_fold (b:=b35) (c:=⟨hrt0 i,l,size,[],0,none⟩) okc) U ?_
  refine Zre (.t U (.t U .n)) (hS.1 (by omega) b35) [0,0] 0 U U U U
theorem spl_app:∀ (a:List Value) {tl:List Value} {j:Nat} {vs:List Value},spl (a++tl) (a.length+j) vs=a++spl tl j vs
 | [],tl,j,vs=>by simp
 | x::a,tl,j,vs=>by
  rw [show (x::a).length+j=(a.length+j)+1 by simp only [List.length_cons];omega]
  show x::spl (a++tl) (a.length+j) vs=_
  rw [spl_app a]
  rfl
theorem core_spl {h:Hrt} {tl:List Value} (j:Nat) {vs:List Value}:spl (coreCs h tl) (35+j) vs=coreCs h (spl tl j vs):=by
 have:=spl_app (hrtE.cells h) (tl:=tl) (j:=j) (vs:=vs)
 rwa [show (hrtE.cells h).length=35 from h.len] at this
theorem core_len {h:Hrt} {tl:List Value} {n:Nat} (hn:35+tl.length=n):(coreCs h tl).length=n:=by
 unfold coreCs
 rw [List.length_append,show (hrtE.cells h).length=35 from h.len,hn]
theorem core_st {h:Hrt} {a b c d e:Value}:((coreCs h [a,b,c,d,e]).drop 0).take 37=coreCs h [a,b]:=by
 rw [List.drop_zero,show coreCs h [a,b,c,d,e]=coreCs h [a,b]++[c,d,e] by simp [coreCs],List.take_left' (show (coreCs h [a,b]).length=37 from core_len rfl)]
section
variable {N:Nat × List Deferred} {T:Tb} {e:World} {L:List Ck} {ty:TypeId} {pos:String} {af:Array Edge} {g:Option (Nat × Bool)} {dd:Option Nat}
theorem ybcor {parts:List (Nat × Operand)} {h:Hrt} {A:Option Addr} {n cap:Nat} {sz f:Int} {q:Option Addr} (hp:evP T parts=some [(0,.agg (coreCs h [.slice A n cap,.int .i64 sz]).toArray),(1,.pointer q),(2,.int .i64 f)]):Yl Tryz.prog N T e L ⟨dd,.build 139 parts.toArray,ty,pos,af,g⟩ (.agg (coreCs h [.slice A n cap,.int .i64 sz,.pointer q,.int .i64 f,.pointer none]).toArray):=fun a w fr hh=>by
 have hl:(coreCs h [.slice A n cap,.int .i64 sz]).length=37:=core_len rfl
 have:=yb (P:=Tryz.prog) (N:=N) (T:=T) (e:=e) (L:=L) (dd:=dd) (ty:=ty) (pos:=pos) (af:=af) (g:=g) l139 hp ⟨⟨_,_,rfl,hl,rfl⟩,⟨_,_,rfl,rfl,rfl⟩,⟨_,_,rfl,rfl,rfl⟩,trivial⟩ a w fr hh
 rw [this]
 congr 3
 show List.toArray _=List.toArray _
 congr 1
 show spl (spl (coreCs h [.slice A n cap,.int .i64 sz]++List.drop (coreCs h [.slice A n cap,.int .i64 sz]).length _) (35+2) [.pointer q]) (35+3) [.int .i64 f]=_
 rw [hl]
 show spl (spl (coreCs h [.slice A n cap,.int .i64 sz]++[.pointer none,.int .i64 0,.pointer none]) (35+2) [.pointer q]) (35+3) [.int .i64 f]=_
 rw [show coreCs h [.slice A n cap,.int .i64 sz]++[.pointer none,.int .i64 0,.pointer none]=coreCs h [.slice A n cap,.int .i64 sz,.pointer none,.int .i64 0,.pointer none] by simp [coreCs],core_spl,core_spl]
 rfl
end
theorem c41 (k b:Nat) (c:Cor):Sp Tryz.prog 41 [pt b] [.hp (corC k b c)] fun K=>∀ b',K (.returned (pt b')) [.hp (corC k b' c),.hp (corC k b c)]:=by
 refine Zen Tryz.func41 U U U fun e X Φ hS=>Zsr<|Zy U<|Znqs<|Zm U<|Zk (c53 ..) [0] U U<|Zq ?_
 refine Zn<|Zcf U<|Zkn<|Zsq ?_
 refine Zoc 0 cor_op U<|fun ok A cap bb pr hpr=>?_
 refine Zhd [2] U U<|Zht 0 U (ym U)<|Zht 1 U (yn U)<|Zht 2 U (yf 0 U)<|Zht 4 U (ym U)<|Zht 5 U (yn U)<|Zht 6 U (yf 37 U)<|Zht 7 U (yd 0 U U (nt_core 2 U U))<|Zht 9 U (ym U)<|Zht 10 U (yn U) ?_
 refine Zht 11 U (yf 38 U)<|Zht 12 U (yd 0 U U (nt_core 3 U U)) ?_
 refine Zht 3 U (yda 0 U U core_st (core_len U))<|ZH1 8<|Zok (c82 ..) [0] U U U<|fun b'=>Zqh 2 U<|Zht 13 U (ybcor U)<|ZH1 14<|Zoe U (ebx U) fun b21=>Zwh 3 U<|Zht 15 U (ya U)<|ZHn<|Zxs ?_
 refine Za 5 [0,35] U U<|Zv (yd 3 U U (nt_core 0 U U)) ?_
 refine Zol 4 own_len U<|fun hA hcp hcm=>?_
 refine Zk (c83 _ A cap c.code own.rd hA (by have:=ok.cl;omega)) [0] U U<|fun A'=>fun cap'=>Zq<|Za 3 [0,35] U U<|Ze (es 2 U U U (pt_core 0 U U) U)<|Zw0<|Zn ?_
 refine Zsq<|Zsr<|Za 3 [39] U U<|Zv (yd 5 U U (nt_core 4 U U))<|Zv (ypne U U U)<|Zn<|Zib U (fun h36=>?_) (fun h36=>?_)
 refine Zsr<|Za 3 [39] U U<|Zv (yd 5 U U (nt_core 4 U U)) ?_
 rotate_left
 refine Zks<|Zb 2 U<|Znr ?_
 rotate_left
 ·obtain ⟨a,hr⟩:∃ a,c.res=some a:=by
   cases hx:c.res with
   | some a=>exact ⟨a,rfl⟩
   | none=>rw [hx,h36] at hpr;cases hpr
  rw [hr]
  refine Zol 6 res_op1 U<|fun ba ea=>?_
  subst ea
  refine Za 2 [0] U U<|Ze (eal z40) fun b4=>Zw<|Ze (es 0 U U U U U)<|Zw0<|Zn<|Zrg<|Za 3 [39] U U ?_
  refine Ze (es 4 U U U (pt_core 4 U U) U)<|Zw0<|Zns<|Zb 2 U<|Znr ?_
  refine Zfx [1] (res_s (b:=ba) hr) U ?_
  refine Zfx [7,3,5,0] (cor_fold (b:=b) (c:=c) ok) U ?_
  refine Zfx [1] (res_s (b:=b4) hr) U ?_
  refine Zfx [3,2,2,0] (cor_fold (b:=b21) (c:=c) ok) U<|Zre (.t U .n) (hS _) [0,0] 0 U U U U
 ·have hpn:pr=none:=by cases pr with | none=>rfl | some x=>cases h36
  subst hpn
  have hr:c.res=none:=res_no hpr rfl
  refine Zfx [5,1,3,3] (cor_fold (b:=b) (c:=c) ok) U ?_
  refine Zfx [] (res_n hr) U ?_
  refine Zfx [3,2,2,0] (cor_fold (b:=b21) (c:=c) ok) U<|Zre (.t U .n) (hS _) [0,0] 0 U U U U
theorem c83z (c:Ck) (A:Option Addr):Sp Tryz.prog 83 [.slice A 0 0] [c] fun K=>∀ A' cap',K (.returned (.slice A' 0 cap')) [.hp (own u32E A' cap' []),c]:=by
 cases A with
 | none=>
  refine Zen Tryz.func83 U U U fun e X Φ hS=>Zsr<|Zy U<|Znqs<|Zm U<|Zv (ysleq ⟨_,Tryz.underlying62⟩ U U)<|Znl ?_
  refine Znx<|Zct U<|Zsr<|Zy U<|Znr<|Zr1 ?_
  refine Zix (fun _ hs=>sep_nil (E:=u32E) hs)<|Zre (.t U .n) (hS _ _) [0,0] 0 U U U U
 | some a=>
  refine Zen Tryz.func83 U U U fun e X Φ hS=>Zsr<|Zy U<|Znqs<|Zm U<|Zv (ysleq ⟨_,Tryz.underlying62⟩ U U)<|Znl ?_
  refine Znx<|Zcf U<|Zks ?_
  refine Ze (eb0' elU32)<|fun B=>Zw<|Zm U ?_
  refine Ze (eap0 0 elU32 U U U U (fun _ _=>U) (by decide) (by decide))<|fun A' cap'=>Zw<|Zy U<|Znr<|Zre (.t U .n) (hS _ _) [0,0] 0 U U U U
theorem c73z (i:Int) (c:Ck) (A:Option Addr) (size:Int) (h0:0≤i) (h1:i<4):Sp Tryz.prog 73 [.int .i64 i,.slice A 0 0,.int .i64 size] [c] fun K=>
  ((([]:List Int).length≤1024∧0≤size∧size≤4096)→∀ b,K (.returned (.tuple #[pt b,.int .i64 0])) [.hp (corC 0 b ⟨hrt0 i,[],size,[],0,none⟩),c])∧(¬ (([]:List Int).length≤1024∧0≤size∧size≤4096)→K (.returned (.tuple #[.pointer none,.int .i64 2])) [c]):=by
 refine Zen Tryz.func73 U U U fun e X Φ hS=>Zsr<|Zb 2 U<|Znqs<|Zb 2 U ?_
 refine Zm U<|Zg' U U (dF (by omega))<|Zm U<|Zg' U U (dF (by omega))<|Zv (yge U U)<|Zv (ypf' U (dF (by omega)) U)<|Zm U<|Zg' U U (dF (by omega))<|Zm U<|Zg' U U (dF (by omega)) ?_
 refine Zv (sl_of ⟨_,Tryz.underlying62⟩ U)<|Zg' U U (dF (by omega))<|Zv (ygt U U)<|Zv (ypf' U (dF (by omega)) U)<|Zb 4 U ?_
 refine Zm U<|Zgs U U (fun h23=>?_) (fun h23=>?_)
 refine Zu' U U (dT h23) U<|Zu' U U (dT h23) U<|Zv (ypt' U (dT h23) U)<|Zn<|Zct U<|Zsr<|Zb 2 U<|Znl ?_
 refine Zxr<|Zr1 ?_
 rotate_left
 refine Zg' U U (dF h23)<|Zm U<|Zg' U U (dF h23)<|Zv (ygt U U)<|Zv (ypf' U (dF h23) U)<|Zn<|Zif U (fun h26=>?_) (fun h26=>?_)
 refine Zsr<|Zb 2 U<|Znr<|Zr1 ?_
 rotate_left
 refine Zks<|Zm U<|Zv (yb l59 U)<|Zm U ?_
 rotate_left
 ·refine Zre (.t U (.t U .n)) (hS.2 (by omega)) [0] 0 U U U U
 ·refine Zre (.t U (.t U .n)) (hS.2 (by omega)) [0] 0 U U U U
 ·have okc:(⟨hrt0 i,[],size,[],0,none⟩:Cor).Ok 0:=⟨hrt0_ok h0 h1,(fun a h=>by cases h),Nat.zero_le _,by show 0≤size;omega,by show size≤4096;omega,Int.le_refl 0,Int.le_refl 0,fun a h=>(by cases h)⟩
  refine Zk (c83z c A) [0] U U<|fun A'=>fun cap'=>Zq<|Zm U<|Zv (yb l135 U)<|Zk (c121 ..) [] U U<|fun b=>Zq<|Zv (yb l139 U) ?_
  refine Ze (ebx U) fun b35=>Zw<|Zb 2 U<|Znr ?_
  refine Zfx [] (res_n (a:=none) U) U ?_
  refine Zfx [1,2,1,0] (cor_fold (b:=b35) (c:=⟨hrt0 i,[],size,[],0,none⟩) okc) U ?_
  refine Zre (.t U (.t U .n)) (hS.1 ⟨Nat.zero_le _,by omega,by omega⟩ b35) [0,0] 0 U U U U
theorem c73u (i:Int) (c:Ck) (A:Option Addr) (cap:Nat) (l:List Int) (size:Int) (h0:0≤i) (h1:i<4) (hR:cap≠0→Rd u32E c A cap l) (hz:cap=0→l=[]) (hA:A=none→l=[]∧cap=0) (hu:∀ a∈l,U32 a):Sp Tryz.prog 73 [.int .i64 i,.slice A l.length cap,.int .i64 size] [c] fun K=>
  ((l.length≤1024∧0≤size∧size≤4096)→∀ b,K (.returned (.tuple #[pt b,.int .i64 0])) [.hp (corC 0 b ⟨hrt0 i,l,size,[],0,none⟩),c])∧(¬ (l.length≤1024∧0≤size∧size≤4096)→K (.returned (.tuple #[.pointer none,.int .i64 2])) [c]):=by
 by_cases h:cap=0
 ·subst h
  obtain rfl:=hz rfl
  exact c73z i c A size h0 h1
 ·exact c73 i c A cap l size h0 h1 (hR h) hA hu
theorem tru_u (b:Bool):U32 (truF b):=by cases b <;> exact ⟨by decide,by decide⟩
theorem quo_u (rd:Int→Int) (a b:Int):U32 (quoF rd a b):=by
 unfold quoF
 split
 ·exact ⟨by decide,by decide⟩
 ·exact w32_u _
theorem rem_u (rd:Int→Int) {a:Int} (b:Int) (h:U32 a):U32 (remF rd a b):=by
 unfold remF
 split
 ·exact h
 ·exact w32_u _
theorem and_u (a b:Int):U32 (andF a b):=w32_u _
theorem or_u (a b:Int):U32 (orF a b):=w32_u _
theorem xor_u (a b:Int):U32 (xorF a b):=w32_u _
theorem add_u (a b:Int):U32 (addF a b):=w32_u _
theorem sub_u (a b:Int):U32 (subF a b):=w32_u _
theorem mul_u (a b:Int):U32 (mulF a b):=w32_u _
theorem mulh_u (a b:Int):U32 (mulhF a b):=w32_u _
theorem mulhu_u (a b:Int):U32 (mulhuF a b):=w32_u _
theorem mulhsu_u (a b:Int):U32 (mulhsuF a b):=w32_u _
theorem shl_u (a b:Int):U32 (shlF a b):=w32_u _
theorem sar_u (a b:Int):U32 (sarF a b):=w32_u _
theorem sl_u (a b:Int):U32 (sl31 a b):=shl_u _ _
theorem sa_u (a b:Int):U32 (sa31 a b):=sar_u _ _
theorem lt_u (a b:Int):U32 (ltF a b):=tru_u _
theorem ltu_u (a b:Int):U32 (ltuF a b):=tru_u _
theorem shr_u {a:Int} (h:U32 a) (b:Int):U32 (shrF a b):=by
 unfold shrF
 have hp:(0:Int)<2 ^ min (m31 b).toNat 32:=Int.pow_pos (by decide)
 obtain ⟨h0,h1⟩:=h
 have e:a.fdiv (2 ^ min (m31 b).toNat 32)=a/(2 ^ min (m31 b).toNat 32):=Int.fdiv_eq_ediv_of_nonneg _ (by omega)
 rw [e]
 exact ⟨Int.ediv_nonneg h0 (by omega),Int.lt_of_le_of_lt (Int.ediv_le_self _ h0) h1⟩
theorem sr_u {a:Int} (h:U32 a) (b:Int):U32 (sr31 a b):=shr_u h _
theorem ext_u (n b:Int):U32 (extF n b):=by
 unfold extF
 split <;> exact sar_u _ _
theorem two_u {op:Int} {p:Nat × (Int→Int→Int)} (h:fd op twoT=some p) {a b:Int} (ha:U32 a):U32 (p.2 a b):=by
 have:=fd_mem h
 simp only [twoT,List.mem_cons,Prod.mk.injEq,List.not_mem_nil,or_false] at this
 rcases this with ⟨_,rfl⟩ | ⟨_,rfl⟩ | ⟨_,rfl⟩ | ⟨_,rfl⟩ | ⟨_,rfl⟩ | ⟨_,rfl⟩ | ⟨_,rfl⟩ | ⟨_,rfl⟩ | ⟨_,rfl⟩ | ⟨_,rfl⟩ | ⟨_,rfl⟩ | ⟨_,rfl⟩ | ⟨_,rfl⟩ | ⟨_,rfl⟩ | ⟨_,rfl⟩ | ⟨_,rfl⟩ | ⟨_,rfl⟩ | ⟨_,rfl⟩ | ⟨_,rfl⟩ | ⟨_,rfl⟩ | ⟨_,rfl⟩ | ⟨_,rfl⟩ | ⟨_,rfl⟩ | ⟨_,rfl⟩ | ⟨_,rfl⟩ | ⟨_,rfl⟩ | ⟨_,rfl⟩
 all_goals dsimp only
 all_goals first
  | with_reducible exact quo_u _ _ _
  | with_reducible exact rem_u _ _ ha
  | with_reducible exact shr_u ha _
  | with_reducible exact sr_u ha _
  | with_reducible exact lt_u _ _
  | with_reducible exact ltu_u _ _
  | with_reducible exact and_u _ _
  | with_reducible exact or_u _ _
  | with_reducible exact xor_u _ _
  | with_reducible exact add_u _ _
  | with_reducible exact sub_u _ _
  | with_reducible exact mul_u _ _
  | with_reducible exact mulh_u _ _
  | with_reducible exact mulhu_u _ _
  | with_reducible exact mulhsu_u _ _
  | with_reducible exact sl_u _ _
  | with_reducible exact sa_u _ _
theorem val_u {h:Hrt} {i:Ins} {a:Ans} {v:Int} (ok:h.Ok) (hi:U32 i.imm) (ha:U32 a.value) (e:valF h i a=some v):U32 v:=by
 unfold valF at e
 split at e
 ·rename_i p hp
  cases e
  exact two_u hp (ok.reg _)
 ·unfold valG at e
  repeat' split at e
  all_goals first
   | (cases e;done)
   | (cases e;first | with_reducible exact hi | with_reducible exact w32_u _ | with_reducible exact tru_u _ | with_reducible exact low_u ha _ | with_reducible exact ext_u _ _ | exact ha)
theorem ans_u {a:Acc} {x:Ans}:U32 (ansF a x).value:=by
 unfold ansF
 split
 ·exact w32_u _
 ·split
  ·exact u0
  ·exact u0
theorem nxt_u (h:Hrt) (i:Ins):U32 (nxtF h i).1:=by
 unfold nxtF
 repeat' split
 all_goals exact w32_u _
theorem setReg_reg (h:Hrt) (k:Nat) (v:Int) (hk:k<32) (j:Nat):(h.setReg k v).reg j=if j=k then v else h.reg j:=by
 unfold Hrt.reg Hrt.setReg
 by_cases e:j=k
 ·subst e
  rw [if_pos rfl,List.getD_eq_getElem?_getD,List.getElem?_set_self (by rw [h.hr];exact hk)]
  rfl
 ·rw [if_neg e,List.getD_eq_getElem?_getD,List.getElem?_set_ne (fun x=>e x.symm),← List.getD_eq_getElem?_getD]
theorem Hrt.Ok.setPc {h:Hrt} (ok:h.Ok) {v:Int} (hv:U32 v):(h.setPc v).Ok:=⟨ok.id0,ok.id1,hv,ok.r0,ok.reg,ok.c0,ok.c1⟩
theorem Hrt.Ok.setCause {h:Hrt} (ok:h.Ok) {v:Int} (h0:0≤v) (h4:v≤4):(h.setCause v).Ok:=⟨ok.id0,ok.id1,ok.pc,ok.r0,ok.reg,h0,h4⟩
theorem Hrt.Ok.setReg {h:Hrt} (ok:h.Ok) {k:Nat} {v:Int} (hk:k<32) (h0:k≠0) (hv:U32 v):(h.setReg k v).Ok:=⟨ok.id0,ok.id1,ok.pc,by rw [setReg_reg h k v hk,if_neg (fun x=>h0 x.symm)];exact ok.r0,fun j=>by
 rw [setReg_reg h k v hk]
 split
 ·exact hv
 ·exact ok.reg j,ok.c0,ok.c1⟩
theorem rdy_err {h:Hrt} {w size c:Int} (e:rdyF h w size = .error c):0≤c∧c≤4:=by
 unfold rdyF at e
 repeat' split at e
 all_goals first
  | (cases e;done)
  | (cases e;exact ⟨by decide,by decide⟩)
theorem don_ok {h:Hrt} {w size:Int} {a:Ans} (ok:h.Ok) (ha:U32 a.value):(donF h w size a).1.Ok:=by
 unfold donF
 split
 ·exact hrt0_ok (by decide) (by decide)
 ·split
  ·rename_i c e
   obtain ⟨h0,h4⟩:=rdy_err e
   exact ok.setCause h0 h4
  ·rename_i i ac p e
   obtain ⟨rfl,rfl,rfl⟩:=rdy_ins e
   have io:=dec_ok w
   have hp:=nxt_u h (decF w).1
   cases hv:valF h (decF w).1 a with
   | none=>exact ok.setPc hp
   | some v=>
    dsimp only
    split
    ·rename_i hd
     exact (ok.setReg io.d (fun x=>by simp [x] at hd) (val_u ok io.im ha hv)).setPc hp
    ·exact ok.setPc hp
theorem cmt_ok {h:Hrt} (w size:Int) (a:Ans) (ok:h.Ok):(cmtF h w size a).1.Ok:=by
 unfold cmtF
 split
 ·exact hrt0_ok (by decide) (by decide)
 ·exact don_ok ok ans_u
abbrev stopC (A:Option Addr) (n cap:Nat):=panV (.iface 333 (.agg #[.slice A n cap]))
theorem c186 (fine:Bool):Sp Tryz.prog 186 [.bool fine] [] fun K=>(fine=true→K (.returned (.tuple #[])) [])∧(fine=false→K (.panicked (stopC none 0 0)) []):=by
 cases fine with
 | true=>
  refine Zen Tryz.func186 U U U fun e X Φ hS=>Zsr<|Zb 2 U<|Zn<|Zcf U<|Zsk<|Zee ?_
  refine Zre .n (hS.1 U) [] 0 U U U U
 | false=>
  refine Zen Tryz.func186 U U U fun e X Φ hS=>Zsr<|Zb 2 U<|Zn<|Zct U<|Zrg<|Zv (yb l333 U)<|Zv (ymi Tryz.underlying333 U U) ?_
  refine Zpn U ?_
  refine Zpe (hS.2 U) [] 0 U U
def actCs (bc bk:Nat) (pick w:Int) (a:Acc):List Value:=[pt bc,pt bk,.int .i64 pick,.int .u32 w,.int .i64 a.kind,.int .u32 a.addr,.int .i64 a.width,.int .u32 a.value,.int .i64 a.op,.bool a.aq,.bool a.rl]
theorem c296 (b bc bk:Nat) (pick w:Int) (a:Acc) (ha:U32 a.addr):Sp Tryz.prog 296 [pt b] [.blk b 294 (actCs bc bk pick w a)] fun K=>K (.returned (.int .u32 (a.addr/16))) [.blk b 294 (actCs bc bk pick w a)]:=by
 have q:=(u32_q ha).1
 refine Zen Tryz.func296 U U U fun e X Φ hS=>Zsr<|Zy U<|Zns<|Za 4 [4,1] U U ?_
 refine Zv (yd 0 U U U)<|Zv (yquo U U (by decide) U)<|Zy U<|Znr<|Zre (.t U .n) hS [0] 0 ?_ U U U
 rw [q]
 rfl
theorem c188 (b bc bk:Nat) (pick w line:Int) (wr:Bool) (a:Acc) (d:CD) (hl:U32 line) (hp : -9223372036854775808≤pick∧pick≤9223372036854775807):Sp Tryz.prog 188 [pt b,.int .u32 line,.bool wr] [.blk b 294 (actCs bc bk pick w a),.hp (cacC bk d)] fun K=>∀ A cap,K (.panicked (stopC A (askF d line hl wr pick).2.1.length cap)) [.hp (own msgE A cap (askF d line hl wr pick).2.1),.blk b 294 (actCs bc bk pick w a),.hp (cacC bk (askF d line hl wr pick).1)]:=by
 refine Zen Tryz.func188 U U U fun e X Φ hS=>?_
 refine Zsq ?_
 refine Zhd [1] U U<|Zht 0 U (ym U)<|Zht 1 U (yn U)<|Zht 2 U (yf 1 U)<|Zht 3 U (yd 0 U U U)<|Zht 4 U (ym U)<|Zht 5 U (ym U)<|Zht 6 U (ym U)<|Zht 7 U (yn U)<|Zht 8 U (yf 2 U) ?_
 refine Zht 9 U (yd 0 U U U) ?_
 refine ZH1 10<|Zok (c224 bk d line pick wr hl hp) [0] U U U<|fun A=>fun cap=>Zqh 2 U<|Zht 11 U (ym U)<|Zht 12 U (yx U U)<|Zht 13 U (yx U U)<|Zht 14 U (ya U)<|Zht 15 U (ya U)<|ZHn ?_
 refine Znx<|Zrg<|Zm U<|Zv (yb l333 U)<|Zv (ymi Tryz.underlying333 U U)<|Zpn U ?_
 refine Zpe (hS _ _) [0,1,0] 0 U U
theorem c250 (b bc bk k:Nat) (pick w:Int) (a:Acc) (c:Cor):Sp Tryz.prog 250 [pt b] [.blk b 294 (actCs bc bk pick w a),.hp (corC k bc c)] fun K=>(c.B=[]→K (.returned (.tuple #[])) [.blk b 294 (actCs bc bk pick w a),.hp (corC k bc c)])∧(c.B≠[]→K (.panicked (stopC none 0 0)) [.blk b 294 (actCs bc bk pick w a),.hp (corC k bc c)]):=by
 refine Zen Tryz.func250 U U U fun e X Φ hS=>Zoc 1 cor_op U<|fun ok A cap bb pr hpr=>?_
 refine Zrg<|Za 6 [0,4,37] U U<|Zv (yd 0 U U (nt_core 2 U U))<|Zk (c148 ..) [2] U U<|Zq ?_
 refine Zv (yeq U U)<|Zk (c186 ..) [] U U<|⟨?_,?_⟩
 refine fun a_1=>Zq <| Znl <| Zee ?_
 rotate_left
 refine fun a_1=>Zqp ?_
 rotate_left
 ·refine Zfx [1,1,0,0] (cor_fold (c:=c) ok) U ?_
  refine Zre .n (hS.1 (List.length_eq_zero_iff.1 (by have:=of_decide_eq_true a_1;omega))) [1,0] 0 U U U U
 ·refine Zfx [1,1,0,0] (cor_fold (c:=c) ok) U ?_
  refine Zpe (hS.2 (fun h=>of_decide_eq_false a_1 (by rw [h];rfl))) [1,0] 0 U U
end Go.Proofs.YtpfijldkkfiooaaGreatDoor
