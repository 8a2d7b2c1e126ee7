/-
  Part 5 of what the claim stands on: walks through the code, plain laws.
-/
import Derived.Test.YtpfijldkkfiooaaGreatDoorZPA4
set_option linter.unusedVariables false
set_option linter.unusedSimpArgs false
namespace Go.Proofs.YtpfijldkkfiooaaGreatDoor
open Go
set_option maxRecDepth 4000
section
variable {P:Program} {r:Option Nat} {N:Nat × List Deferred} {T:Tb} {e:World} {Q:Exit→Act→World→Prop} {os:List Oper} {fuel:Nat} {listed:Array Bool} {S M:List Ck}
theorem Zh3 (i j m:Nat) (hr:Region.ready .any os.toArray listed=[i,j,m]) (h:ZO P r os Q fuel listed N T e S M i) (h':ZO P r os Q fuel listed N T e S M j) (h2:ZO P r os Q fuel listed N T e S M m):ZH P r os Q (fuel+1) listed N T e S M:=fun w hp ok a fr=>
 Lt hr (by simp) fun k hk=>by
  rw[List.mem_cons,List.mem_cons,List.mem_singleton] at hk;rcases hk with rfl|rfl|rfl
  ·exact h w hp ok a fr
  ·exact h' w hp ok a fr
  ·exact h2 w hp ok a fr
end
def Eb (c:Cor) (w:Int) (x:Ans) (own:Int):Cor × Did:=(c.setH (DP c.h w c.size x).1,⟨1,(DP c.h w c.size x).1.id,(DP c.h w c.size x).2.1,BI,own⟩)
theorem Cor.Ok.commit {k:Nat} {c:Cor} (ok:c.Ok k) (w:Int) (x:Ans) (own:Int):(Eb c w x own).1.Ok k:={ ok with h:=R5 w c.size x ok.h }
theorem Mt (b bc bk k:Nat) (pick w own:Int) (a:Acc) (x:Ans) (c:Cor):Sp Tryz.prog 245 [pt b,.agg (Qt.arr x),.int .i64 own] [.blk b 294 (BO bc bk pick w a),.hp (Br k bc c),spC] fun K=>K (.returned (.agg (Cg.arr (Eb c w x own).2))) [.blk b 294 (BO bc bk pick w a),.hp (Br k bc (Eb c w x own).1),spC]:=by
 refine Zen Tryz.func245 U U U fun e X Φ hS=>Zoc 1 CO U<|fun ok A cap bb pr hpr=>?_;have okh:=ok.h;refine Zsr<|Ze (A8 U) fun b4=>Zw<|Ze (eal z53) fun b6=>Zw<|Zn ?_
 refine Zjq (ι:=Nat × Nat) (fun p=>[(0,pt b),(2,.int .i64 own),(6,pt b6),(7,pt p.1),(8,pt p.2)]) (fun p=>[.blk p.1 59 (Bh.cells (DP c.h w c.size x).1),.blk p.2 49 (aA.cells (DP c.h w c.size x).2.1),.blk b6 53 (Cg.cells GE),.blk bc 139 (BG c.h (Kn c A cap bb pr)),.hp (Go.Proofs.YtpfijldkkfiooaaGreatDoor.own D5 A cap c.code),.hp (DH bb c.B),.hp (LM pr c.res),.blk b 294 (BO bc bk pick w a),spC]) X ?_ fun p=>?_;rotate_left;refine Zsq ?_;rotate_left
 ·refine Zhd [7] U U<|Zht 0 U (ym U)<|Zht 1 U (yn U)<|Zht 2 U (yf 0 U)<|Zht 3 U (yd 6 U U U)<|Zht 4 U (yn U)<|Zht 5 U (yf 0 U)<|Zht 6 U (yf 0 U)<|Zht 7 U (yda 2 (m:=35) U U (Hu _ _) (Enc.len ..))<|Zht 8 U (ym U) ?_;refine Zht 9 U (yn U)<|Zht 10 U (yf 3 U)<|Zht 11 U (yd 6 U U U)<|Zht 12 U (ym U)<|Zht 13 U (yn U)<|Zht 14 U (yf 0 U)<|Zht 15 U (yd 6 U U U)<|Zht 16 U (yn U)<|Zht 17 U (yf 0 U)<|Zht 18 U (yf 36 U) ?_;refine Zht 19 U (yd 2 U U (Bj 1 U U))<|Zht 20 U (ydw 1 (m:=2) U U (Enc.len ..)) ?_
  refine Zh3 21 26 27 (by kernel_rfl) (Zok (RM c.h w c.size x okh) [0] U U U<|Zqh 1 U ?_) (Zoe U (eal z59) fun b7=>Zwh 2 U ?_) (Zoe U (eal z49) fun b8=>Zwh 2 U ?_)
  ·refine Zht 22 U (ym U)<|Zht 23 U (yx U U)<|Zht 24 U (yx U U)<|Zht 25 U (yx U U)<|ZH2 26 27 (Zoe U (eal z59) fun b7=>Zwh 2 U ?_) (Zoe U (eal z49) fun b8=>Zwh 2 U ?_);refine ZH1 27<|Zoe U (eal z49) fun b8=>Zwh 3 U<|ZH1 28<|Zoe U (esw 1 (m:=35) U U U U U (Enc.len ..) (Enc.allL ..))<|Ay 3 U<|ZH1 29<|Zoe U (esw 0 (m:=14) U U U U U (Enc.len ..) (Enc.allL ..))<|Ay 3 U<|Zht 30 U (ya U)<|ZHn ?_;rotate_left
   refine ZH1 26<|Zoe U (eal z59) fun b7=>Zwh 3 U<|ZH1 28<|Zoe U (esw 0 (m:=35) U U U U U (Enc.len ..) (Enc.allL ..))<|Ay 3 U<|ZH1 29<|Zoe U (esw 1 (m:=14) U U U U U (Enc.len ..) (Enc.allL ..))<|Ay 3 U<|Zht 30 U (ya U)<|ZHn ?_;rotate_left
   ·refine Zjr (b7,b8) ⟨U,U,U,U,U,trivial⟩ [1,0,1,2,2,2,2,2,0] 1 U U
   ·refine Zjr (b7,b8) ⟨U,U,U,U,U,trivial⟩ [0,0,1,2,2,2,2,2,0] 1 U U
  ·refine ZH2 21 27 (Zok (RM ..) [1] U U U ?_) (Zoe U (eal z49) fun b8=>Zwh 3 U ?_);refine Zqh 2 U<|Zht 22 U (ym U)<|Zht 23 U (yx U U)<|Zht 24 U (yx U U)<|Zht 25 U (yx U U)<|ZH1 27<|Zoe U (eal z49) fun b8=>Zwh 3 U<|ZH1 28<|Zoe U (esw 2 (m:=35) U U U U U (Enc.len ..) (Enc.allL ..))<|Ay 3 U<|ZH1 29<|Zoe U (esw 0 (m:=14) U U U U U (Enc.len ..) (Enc.allL ..))<|Ay 3 U<|Zht 30 U (ya U)<|ZHn ?_;rotate_left
   refine ZH1 21<|Zok (RM ..) [2] U U U<|Zqh 3 U<|Zht 22 U (ym U)<|Zht 23 U (yx U U)<|Zht 24 U (yx U U)<|Zht 25 U (yx U U)<|ZH1 28<|Zoe U (esw 2 (m:=35) U U U U U (Enc.len ..) (Enc.allL ..))<|Ay 3 U<|ZH1 29<|Zoe U (esw 1 (m:=14) U U U U U (Enc.len ..) (Enc.allL ..))<|Ay 3 U<|Zht 30 U (ya U)<|ZHn ?_;rotate_left
   ·refine Zjr (b7,b8) ⟨U,U,U,U,U,trivial⟩ [2,0,1,2,2,2,2,2,0] 1 U U
   ·refine Zjr (b7,b8) ⟨U,U,U,U,U,trivial⟩ [2,1,1,2,2,2,2,2,0] 1 U U
  ·refine ZH2 21 26 (Zok (RM ..) [1] U U U ?_) (Zoe U (eal z59) fun b7=>Zwh 3 U ?_);refine Zqh 2 U<|Zht 22 U (ym U)<|Zht 23 U (yx U U)<|Zht 24 U (yx U U)<|Zht 25 U (yx U U)<|ZH1 26<|Zoe U (eal z59) fun b7=>Zwh 3 U<|ZH1 28<|Zoe U (esw 0 (m:=35) U U U U U (Enc.len ..) (Enc.allL ..))<|Ay 3 U<|ZH1 29<|Zoe U (esw 2 (m:=14) U U U U U (Enc.len ..) (Enc.allL ..))<|Ay 3 U<|Zht 30 U (ya U)<|ZHn ?_;rotate_left
   refine ZH1 21<|Zok (RM ..) [2] U U U<|Zqh 3 U<|Zht 22 U (ym U)<|Zht 23 U (yx U U)<|Zht 24 U (yx U U)<|Zht 25 U (yx U U)<|ZH1 28<|Zoe U (esw 1 (m:=35) U U U U U (Enc.len ..) (Enc.allL ..))<|Ay 3 U<|ZH1 29<|Zoe U (esw 2 (m:=14) U U U U U (Enc.len ..) (Enc.allL ..))<|Ay 3 U<|Zht 30 U (ya U)<|ZHn ?_;rotate_left
   ·refine Zjr (b7,b8) ⟨U,U,U,U,U,trivial⟩ [0,1,1,2,2,2,2,2,0] 1 U U
   ·refine Zjr (b7,b8) ⟨U,U,U,U,U,trivial⟩ [1,1,1,2,2,2,2,2,0] 1 U U
 ·refine Zhd [3] U U<|Zht 0 U (ym U)<|Zht 1 U (yn U)<|Zht 2 U (yf 0 U)<|Zht 3 U (yd 6 U U U)<|Zht 4 U (ydw 0 (m:=35) U U (Enc.len ..))<|Zht 5 U (yn U)<|Zht 6 U (yf 0 U)<|Zht 7 U (yf 0 U) ?_;refine ZH1 8<|Zoe U (esc 0 (m:=35) U U U (Sa _ _ _) U (Enc.len ..) (by rw[R8 rfl];exact Nat.le_of_ble_eq_true rfl) (Enc.allL ..))<|Ay 1 U<|ZHn<|Zxs<|Za 2 [0,1] U U<|Zv (ydw 2 (m:=14) U U (Enc.len ..))<|Zm U<|Zv (yb l53 U)<|Ze (esw 3 (m:=20) U U U U (Enc.len ..) U U)<|Zw0 ?_;refine Znr ?_
  refine Zfx [0,3,3,3] (Az (c:=(Eb c w x own).1) (ok.commit w x own)) U<|Zre (.wh 3 (m:=20) U U U .n) hS [4,0,3] 3 U U U U
theorem ZI (b bc bk:Nat) (pick w:Int) (a:Acc) (d:CD) (ha:U32 a.addr) (hp : -9223372036854775808≤pick∧pick≤9223372036854775807):Sp Tryz.prog 248 [pt b] [.blk b 294 (BO bc bk pick w a),.hp (AK bk d)] fun K=>
  ((B8 d.L a.addr a.width).2=0→K (.returned (.int .u32 (B8 d.L a.addr a.width).1)) [.blk b 294 (BO bc bk pick w a),.hp (AK bk d)]) ∧
  ((B8 d.L a.addr a.width).2≠0→∀A cap,K (.panicked (Ic A (askF d (a.addr/16) (Cf ha).2 false pick).2.1.length cap)) [.hp (own Al A cap (askF d (a.addr/16) (Cf ha).2 false pick).2.1),.blk b 294 (BO bc bk pick w a),.hp (AK bk (askF d (a.addr/16) (Cf ha).2 false pick).1)]):=by
 have q:=(Cf ha).1;refine Zen Tryz.func248 U U U fun e X Φ hS=>Zsr<|Zy U<|Znq ?_;refine Zhd [1] U U<|Zht 0 U (ym U)<|Zht 1 U (yn U)<|Zht 2 U (yf 1 U)<|Zht 3 U (yd 0 U U U)<|Zht 4 U (ym U)<|Zht 5 U (yn U)<|Zht 6 U (yf 4 U)<|Zht 7 U (yf 1 U)<|Zht 8 U (yd 0 U U U) ?_;refine Zht 9 U (ym U)<|Zht 10 U (yn U)<|Zht 11 U (yf 4 U)<|Zht 12 U (yf 2 U)<|Zht 13 U (yd 0 U U U) ?_;refine ZH1 14<|Zok (ZK bk d a.addr a.width ha) [0] U U U<|Zqh 1 U<|Zht 15 U (ym U)<|Zht 16 U (yx U U)<|Zht 17 U (yx U U)<|Zht 18 U (ya U)<|Zht 19 U (ya U)<|ZHn<|Zxq ?_;refine Zsr<|Zb 2 U<|Zn<|Zif U (fun h24=>?_) (fun h24=>?_)
 refine Zrg<|Zb 2 U ?_;rotate_left;refine Zks<|Zb 2 U<|Znr ?_;rotate_left
 ·refine Zk (RT b bc bk pick w a ha) [1] U U<|Zq ?_;refine Zk (UO b bc bk pick w (a.addr/16) false a d (Cf ha).2 hp) [0,0] U U<|fun A=>fun cap=>Zqp<|Zp1 ?_;refine Zpe (hS.2 h24 _ _) [0,0,0] 0 U U
 ·refine Zre (.t U .n) (hS.1 (Decidable.not_not.1 h24)) [1,0] 0 U U U U
theorem ZJ (b bc bk:Nat) (pick w:Int) (a:Acc) (d:CD) (ha:U32 a.addr) (hp : -9223372036854775808≤pick∧pick≤9223372036854775807):Sp Tryz.prog 251 [pt b] [.blk b 294 (BO bc bk pick w a),.hp (AK bk d)] fun K=>
  (Ap (stateOf d.L (a.addr/16))=true→K (.returned (.tuple #[])) [.blk b 294 (BO bc bk pick w a),.hp (AK bk d)]) ∧
  (Ap (stateOf d.L (a.addr/16))=false→∀A cap,K (.panicked (Ic A (askF d (a.addr/16) (Cf ha).2 true pick).2.1.length cap)) [.hp (own Al A cap (askF d (a.addr/16) (Cf ha).2 true pick).2.1),.blk b 294 (BO bc bk pick w a),.hp (AK bk (askF d (a.addr/16) (Cf ha).2 true pick).1)]):=by
 refine Zen Tryz.func251 U U U fun e X Φ hS=>Zsq ?_;refine Zhd [0,0] U U<|Zht 0 U (ym U)<|Zht 1 U (yn U)<|Zht 2 U (yf 1 U)<|Zht 4 U (ym U) ?_;refine ZH2 3 5 (Zov U (yd 0 U U U) ?_) (Zok (RT b bc bk pick w a ha) [0] U U U<|Zqh 2 U ?_)
 ·refine ZH1 5<|Zok (RT b bc bk pick w a ha) [0] U U U<|Zqh 2 U ?_;refine ZH1 6<|Zok (c97 bk d (a.addr/16) (Cf ha).2) [1] U U U<|Zqh 2 U<|Zht 7 U (ya U)<|ZHn<|Zxs<|Zb 3 U<|Zgs U U (fun h12=>?_) (fun h12=>?_);refine Zg' U U (dT h12)<|Zm U<|Zg' U U (dT h12)<|Zv (yne U U)<|Zv (Ax U (dT h12) U)<|Zn<|Zif U (fun h15=>?_) (fun h15=>?_);refine Zrg<|Zb 2 U ?_;rotate_left;refine Zsk<|Zee ?_;rotate_left;refine Zu' U U (dF h12) U<|Zu' U U (dF h12) U<|Zv (Ao U (dF h12) U)<|Zn<|Zcf U<|Zsk<|Zee ?_;rotate_left
  ·refine Zk (RT b bc bk pick w a ha) [1] U U<|Zq ?_;refine Zk (UO b bc bk pick w (a.addr/16) true a d (Cf ha).2 hp) [0,0] U U<|fun A=>fun cap=>Zqp ?_;refine Zpe (hS.2 (by simp[Ap,h12,h15]) _ _) [0,0,0] 0 U U
  ·refine Zre .n (hS.1 (by simp[Ap,Decidable.not_not.1 h15])) [1,0] 0 U U U U
  ·refine Zre .n (hS.1 (by simp[Ap,Decidable.not_not.1 h12])) [1,0] 0 U U U U
 ·refine ZH1 3<|Zov U (yd 0 U U U) ?_;refine ZH1 6<|Zok (c97 bk d (a.addr/16) (Cf ha).2) [1] U U U<|Zqh 2 U<|Zht 7 U (ya U)<|ZHn<|Zxs<|Zb 3 U<|Zgs U U (fun h12=>?_) (fun h12=>?_);refine Zg' U U (dT h12)<|Zm U<|Zg' U U (dT h12)<|Zv (yne U U)<|Zv (Ax U (dT h12) U)<|Zn<|Zif U (fun h15=>?_) (fun h15=>?_);refine Zrg<|Zb 2 U ?_;rotate_left;refine Zsk<|Zee ?_;rotate_left;refine Zu' U U (dF h12) U<|Zu' U U (dF h12) U<|Zv (Ao U (dF h12) U)<|Zn<|Zcf U<|Zsk<|Zee ?_;rotate_left
  ·refine Zk (RT b bc bk pick w a ha) [1] U U<|Zq ?_;refine Zk (UO b bc bk pick w (a.addr/16) true a d (Cf ha).2 hp) [0,0] U U<|fun A=>fun cap=>Zqp ?_;refine Zpe (hS.2 (by simp[Ap,h12,h15]) _ _) [0,0,0] 0 U U
  ·refine Zre .n (hS.1 (by simp[Ap,Decidable.not_not.1 h15])) [1,0] 0 U U U U
  ·refine Zre .n (hS.1 (by simp[Ap,Decidable.not_not.1 h12])) [1,0] 0 U U U U
def bwd (l:List Sto):List (Nat × Sto):=(List.range l.length).map fun j=>(l.length-1-j,l.getD (l.length-1-j) BI)
theorem UJ (l:List Sto):(bwd l).length=l.length:=by simp[bwd]
theorem RJ {l:List Sto} {j:Nat} (h:j<l.length):(bwd l)[j]? = some (l.length-1-j,l.getD (l.length-1-j) BI):=by unfold bwd;rw[List.getElem?_map,List.getElem?_range h];rfl
abbrev idE (p:Nat × Sto):List Value:=[.int .i64 (p.1:Int),.agg (DU.arr p.2)]
theorem kM (b1:Nat) (A:Option Addr) (cap:Nat) (l:List Sto) (hl:l.length≤4):Sq Tryz.prog 347 [pt b1] [.blk b1 73 [.slice A l.length cap],.hp (own DU A cap l)] (fun _=>[.blk b1 73 [.slice A l.length cap],.hp (own DU A cap l)]) idE (bwd l):=by
 refine⟨fun y J Jx hYd=>?_⟩;refine Zen Tryz.func347 U U U fun e X Φ hS=>Zsr<|Zv (yd 1 U U U)<|Zv (Aw ⟨_,Tryz.underlying73⟩ U)<|Zv (Dh U U (Ar U (by omega)))<|Zy U<|Znb ?_;refine Zlq (ι:={ i:Nat // i≤l.length }) (fun i=>[(3,.int .i64 ((l.length:Int)-1-(i.1:Int))),(0,.func (.yield y) #[] #[]),(1,pt b1)]) (fun i=>[.hp (J ((bwd l).take i.1)),.blk b1 73 [.slice A l.length cap],.hp (own DU A cap l)]) (fun i=>l.length-i.1) ⟨0,by omega⟩ ?_ [0,0,0] U fun i=>?_;rotate_left;refine Zsq<|Zsr<|Zb 2 U<|Zn<|Zif U (fun h8=>?_) (fun h8=>?_);refine Zkn<|Zsq<|Zbl<|Zsr<|Za 4 [1] U U ?_;rotate_left
 refine Zex<|Zxt<|Zxt<|Zxx<|Zee ?_;rotate_left
 ·refine⟨?_,rfl,rfl,trivial⟩;show some _=some _;simp
 ·have hlt:i.1<l.length:=by omega
  have e1:(l.length:Int)-1-(i.1:Int)=((l.length-1-i.1:Nat):Int):=by omega
  have hx:(bwd l).take i.1++[(l.length-1-i.1,l.getD (l.length-1-i.1) BI)] <+: bwd l:=by rw[Co (RJ hlt)];exact List.take_prefix _ _
  have hg:l[l.length-1-i.1]? = some (l.getD (l.length-1-i.1) BI):=by rw[List.getD_eq_getElem?_getD,List.getElem?_eq_getElem (by omega)];rfl
  rw[e1];refine Zv (yea 2 own.rd U U U (by first|assumption|omega) U Tryz.underlying73 U)<|Zv (yel 2 own.rd U (by assumption) U U U) ?_;refine Zyd (hYd _ _ hx) 0 U U U ?_ ?_;refine Zv (BM U)<|Zn<|Zcf U<|Zsk<|Zxn<|Znx<|Zrg<|Zm U<|Zv (Dh U U (Ar U (by omega))) ?_;refine Zy U<|Znl ?_;rotate_left;refine Zv (BM U)<|Zn<|Zct U<|Zrt<|Zr2<|Zr1<|Zr1<|Zr2 ?_;rotate_left
  ·rw[Co (RJ hlt),show((l.length-1-i.1:Nat):Int)-1=(l.length:Int)-1-((i.1+1:Nat):Int) by omega];refine Zlr ⟨i.1+1,by omega⟩ (by show l.length-(i.1+1)<l.length-i.1;omega) ⟨U,U,U,trivial⟩ [0,0,0] 0 U U
  ·refine Zre .n (hS.2 _ hx) [0,0,0] 0 U U U U
 ·have hi:=i.2;rw[List.take_of_length_le (show(bwd l).length≤i.1 by rw[UJ];omega)];refine Zre .n hS.1 [0,0,0] 0 U U U U
theorem iA (A:Option Addr) (cap n:Nat):Sp Tryz.prog 295 [.slice A n cap] [] fun K=>∀b1,K (.returned (.func (.func 347) #[] #[pt b1])) [.blk b1 73 [.slice A n cap]]:=by refine Zen Tryz.func295 U U U fun e X Φ hS=>Zsr<|Ze (ebx U) fun b1=>Zw<|Zy U<|Zns<|Zv (yfn U U)<|Zy U<|Znl ?_;refine Zxr<|Zre (.t U .n) (hS _) [0] 0 U U U U
def Fl (a w:Int) (s:Sto):Bool:=decide (s.addr<w32 (a+w32 w)) && decide (a<w32 (s.addr+w32 s.width))
def Gb (f a w:Int) (xs:List (Nat × Sto)):Int:=match xs.find? (fun p=>Fl a w p.2) with|some p=>f+p.1|none => -1
def Qd (c:Cor) (a:Acc):Int:=Gb c.first a.addr a.width (bwd c.B)
theorem FT {f a w:Int} {xs:List (Nat × Sto)} (h:∀p∈xs,Fl a w p.2=false):Gb f a w xs = -1:=by unfold Gb;rw[List.find?_eq_none.2 fun p hp=>by simp[h p hp]]
theorem Rc {a w:Int} {xs:List (Nat × Sto)} {p:Nat × Sto} (h:∀p∈xs,Fl a w p.2=false) (hp:Fl a w p.2=true):(xs++[p]).find? (fun p=>Fl a w p.2)=some p:=by rw[List.find?_append,List.find?_eq_none.2 fun p hp=>by simp[h p hp]];simp[hp]
theorem UK {l:List Sto} {pre:List (Nat × Sto)} {x:Nat × Sto} (h:pre++[x] <+: bwd l):x.1≤l.length:=by have hm:x∈bwd l:=h.subset (by simp);obtain⟨j,hj,rfl⟩:=List.mem_map.1 hm;show l.length-1-j≤l.length;omega
theorem T4 {f a w:Int} {xs pre:List (Nat × Sto)} {p:Nat × Sto} (h:pre <+: xs) (hp:pre.find? (fun p=>Fl a w p.2)=some p):Gb f a w pre=Gb f a w xs:=by unfold Gb;rw[hp,h.find?_eq_some hp]
theorem KH {a w:Int} {pre:List (Nat × Sto)} {x:Nat × Sto} (h:∀p∈pre,Fl a w p.2=false) (hx:Fl a w x.2=false):∀p∈pre++[x],Fl a w p.2=false:=fun p hp=>by
 rcases List.mem_append.1 hp with hp|hp
 ·exact h p hp
 ·rw[List.mem_singleton] at hp;subst hp;exact hx
theorem gD (b bc bk k:Nat) (pick w:Int) (a:Acc) (c:Cor) (hk:k≤1000000):Sp Tryz.prog 247 [pt b] [.blk b 294 (BO bc bk pick w a),.hp (Br k bc c)] fun K=>K (.returned (.int .i64 (Qd c a))) [.blk b 294 (BO bc bk pick w a),.hp (Br k bc c)]:=by
 refine J2 Tryz.func247 U U U fun e X Φ hS=>Zoc 1 CO U<|fun ok A cap bb pr hpr=>Zoc 2 I6 U<|fun h4 hal=>Zsr<|Ze (ebx U) fun b1=>Zw<|Zy U<|Zn<|WP<|Zsr<|Za 2 [0] U U ?_;refine Za 4 [0,5,37] U U<|Zv (yd 2 U U (Bj 2 U U))<|Zk (c54 ..) [1] U U<|fun A_1=>fun cap_1=>Zq<|Zy U ?_;refine Zns<|Ze (eal z3) fun b4=>Zw<|Ze (es 0 U U U U U)<|Zw0<|Znq<|Zlb<|Znx ?_;refine Zsq<|Zsr<|Zm U<|Zk (iA ..) [] U U<|fun b1_1=>Zq<|Znb ?_
 refine Zrf (kM b1_1 A_1 cap_1 c.B h4) (fun pre=>[.blk b4 3 [.int .i64 (Gb c.first a.addr a.width pre)],.blk b1 292 [pt b],.blk bc 139 (BG c.h (Kn c A cap bb pr)),.blk b 294 (BO bc bk pick w a)]) (fun pre=>∀p∈pre,Fl a.addr a.width p.2=false) (fun _=>[]) (fun _=>False) (fun _ pre=>[.blk b4 3 [.int .i64 (Gb c.first a.addr a.width pre)],.blk b1 292 [pt b],.blk bc 139 (BG c.h (Kn c A cap bb pr)),.blk b 294 (BO bc bk pick w a)]) (fun id pre=>id=0∧∃p,pre.find? (fun p=>Fl a.addr a.width p.2)=some p) [0,1,0,1,1,3] U U ?_ (fun e' y pre x F hx hn=>?_) (fun D hn=>?_) (fun D pre hx hp=>?_) (fun D id pre hx hp=>?_) (fun _=>U) (by decide)
 refine fun p=>fun a_1=>?_;rotate_left;refine Zsr<|Zy U<|Zn<|Zrg<|Ze (eal z51) fun b6=>Zw<|Ze (esw 0 (m:=3) U U U U U (Enc.len ..) (Enc.allL ..))<|Zw0<|Znl<|Zak 5 U fun F'=>Zbl ?_;refine Zsq<|Zhd [] U U<|Zht 0 U (yf 0 U)<|Zht 1 U (yd 0 U U U)<|Zht 2 U (yd 2 U U U)<|Zht 3 U (yn U)<|Zht 4 U (yf 4 U)<|Zht 5 U (yf 1 U)<|Zht 6 U (yd 4 U U U)<|Zht 7 U (yd 2 U U U) ?_
 refine Zht 8 U (yn U)<|Zht 9 U (yf 4 U)<|Zht 10 U (yf 2 U)<|Zht 11 U (yd 4 U U U)<|Zht 12 U (ycv Tryz.underlying3 Tryz.underlying40 U U)<|Zht 13 U (Ac U U U)<|Zht 14 U (ylt U U)<|Zht 15 U (ym U)<|IR 16 U U U (fun h34=>?_) (fun h34=>?_)
 refine Zhg 16 U U (lkn U (dT h34)) (yd 2 U U U)<|Zhg 17 U U (lkn U (dT h34)) (yn U)<|Zhg 18 U U (lkn U (dT h34)) (yf 4 U)<|Zhg 19 U U (lkn U (dT h34)) (yf 1 U)<|Zhg 20 U U (lkn U (dT h34)) (yd 4 U U U)<|Zhg 21 U U (lkn U (dT h34)) (yf 0 U)<|Zhg 22 U U (lkn U (dT h34)) (yd 0 U U U)<|Zhg 23 U U (lkn U (dT h34)) (yf 1 U)<|Zhg 24 U U (lkn U (dT h34)) (yd 0 U U U)<|Zhg 25 U U (lkn U (dT h34)) (ycv Tryz.underlying3 Tryz.underlying40 U U) ?_
 refine Zhg 26 U U (lkn U (dT h34)) (Ac U U U)<|Zhg 27 U U (lkn U (dT h34)) (ylt U U)<|Zht 28 U (Ax U (dT h34) U)<|ZHn<|Znx<|Zif U (fun h47=>?_) (fun h47=>?_);refine Zsr<|Za 6 [2,0,4,38] U U<|Zv (yd 3 U U (Bj 3 U U))<|Zm U<|Zv (Ac U U U) ?_;refine Ze (es 1 U U U U U)<|Zw0<|Zn<|Zex<|Zxb U ?_;rotate_left;refine Zsk<|Zxn ?_;rotate_left
 refine Zhu 16 U U (lkn U (dF h34)) U<|Zhu 17 U U (lkn U (dF h34)) U<|Zhu 18 U U (lkn U (dF h34)) U<|Zhu 19 U U (lkn U (dF h34)) U<|Zhu 20 U U (lkn U (dF h34)) U<|Zhu 21 U U (lkn U (dF h34)) U<|Zhu 22 U U (lkn U (dF h34)) U<|Zhu 23 U U (lkn U (dF h34)) U<|Zhu 24 U U (lkn U (dF h34)) U<|Zhu 25 U U (lkn U (dF h34)) U ?_;refine Zhu 26 U U (lkn U (dF h34)) U<|Zhu 27 U U (lkn U (dF h34)) U<|Zht 28 U (Ao U (dF h34) U)<|ZHn<|Znx<|Zcf U<|Zsk<|Zxn ?_;rotate_left;refine Zxn<|Zxs<|Za 2 [1] U U<|Znr<|Zgr<|Zmk 0 U ?_;rotate_left;refine Zrt<|Zr2<|Zr1<|Zgr<|Zmk 0 U ?_;rotate_left;refine Zex ?_;rotate_left
 ·exact absurd (by assumption:_∈([]:List (Nat × Sto))) List.not_mem_nil
 ·have hh:Fl a.addr a.width x.2=true:=by unfold Fl w32;rw[dT h34,dT h47];rfl
  have hf:=Rc hn hh
  have e2:IntKind.i64.wrap (c.first+x.1)=Gb c.first a.addr a.width (pre++[x]):=by
   have h1:=UK hx;have h2:=ok.f0;have h3:=ok.f1;unfold Gb;rw[hf];show _=c.first+(x.1:Int)
   exact Ar rfl (by omega)
  rw[e2];refine Zrx ⟨U,_,hf⟩ [1,1,1,1] 1 U U
 ·have hh:Fl a.addr a.width x.2=false:=by unfold Fl w32;rw[dF h47,Bool.and_false]
  have hm:=KH hn hh;rw[FT hn,←FT (f:=c.first) hm];refine Zrn hm [1,1,1,1] 1 U U
 ·have hh:Fl a.addr a.width x.2=false:=by unfold Fl w32;rw[dF h34,Bool.false_and]
  have hm:=KH hn hh;rw[FT hn,←FT (f:=c.first) hm];refine Zrn hm [1,1,1,1] 1 U U
 ·refine Zfx [2,6,5,5] (Az (c:=c) ok) U<|Zre (.t U .n) hS [3,0] 4 U U U U
 ·exact hp.elim
 ·obtain⟨rfl,p,hp⟩:=hp;rw[T4 hx hp];refine Zxx<|Zxs<|Za 2 [1] U U<|Znr<|Zgr<|Zmk 0 U ?_;refine Zfx [2,6,5,5] (Az (c:=c) ok) U<|Zre (.t U .n) hS [3,0] 4 U U U U
abbrev Hg:=Cor × CD × Except (List Msg) Did
abbrev Ih (b bc bk k:Nat) (pick w:Int) (a:Acc) (c:Cor) (d:CD):List Ck:=[.blk b 294 (BO bc bk pick w a),.hp (Br k bc c),.hp (AK bk d),spC]
def AcS (b bc bk k:Nat) (pick w:Int) (a:Acc) (r:Hg) (K:Out):Prop:=match r.2.2 with
 | .ok did=>K (.returned (.agg (Cg.arr did))) (Ih b bc bk k pick w a r.1 r.2.1)
 | .error ms=>∀A cap,K (.panicked (Ic A ms.length cap)) (.hp (own Al A cap ms)::Ih b bc bk k pick w a r.1 r.2.1)
def Bm (c:Cor) (d:CD) (w:Int) (x:Ans) (o:Int):Hg:=((Eb c w x o).1,d,.ok (Eb c w x o).2)
def Bi (c:Cor) (d:CD) (ms:List Msg):Hg:=(c,d,.error ms)
theorem UP (b bc bk k:Nat) (pick w:Int) (a:Acc) (c:Cor):Sp Tryz.prog 214 [pt b] [.blk b 294 (BO bc bk pick w a),.hp (Br k bc c),spC] fun K=>K (.returned (.agg (Cg.arr (Eb c w Gx (-1)).2))) [.blk b 294 (BO bc bk pick w a),.hp (Br k bc (Eb c w Gx (-1)).1),spC]:=by refine Zen Tryz.func214 U U U fun e X Φ hS=>?_;refine Zsr<|Ze (eal z53) fun b2=>Zw<|Zns<|Zm U<|Zv (yb l46 U) ?_;refine Zk (Mt b bc bk k pick w (-1) a Gx c) [1,1,1] U U<|Zq<|Ze (esw 3 (m:=20) U U U U U (Enc.len ..) (Enc.allL ..))<|Zw0<|Znr<|Zre (.wh 3 (m:=20) U U (Enc.len ..) .n) hS [0,0,0] 1 U U U U
def Fz (a:Acc):Sto:=⟨a.addr,a.width,a.value⟩
def FA (c:Cor) (d:CD) (w:Int) (a:Acc):Hg:=if H8 c.B (Fz a)=0 then Bm (c.setB (EJ c.B (Fz a))) d w Gx (-1) else Bi (c.setB (EJ c.B (Fz a))) d []
theorem fT (b bc bk k:Nat) (pick w:Int) (a:Acc) (c:Cor) (d:CD) (ao:a.Ok):Sp Tryz.prog 216 [pt b] (Ih b bc bk k pick w a c d) (AcS b bc bk k pick w a (FA c d w a)):=by
 have so:(Fz a).Ok:=⟨ao.ad,ao.va⟩
 refine Zen Tryz.func216 U U U fun e X Φ hS=>Zoc 1 CO U<|fun ok A cap bb pr hpr=>?_;refine Zsr<|Ze (eal z53) fun b2=>Zw<|Znq ?_;refine Zhd [3] U U<|Zht 0 U (ym U)<|Zht 1 U (yn U)<|Zht 2 U (yf 0 U)<|Zht 3 U (yd 4 U U U)<|Zht 4 U (yn U)<|Zht 5 U (yf 37 U)<|Zht 6 U (yd 1 U U (Bj 2 U U))<|Zht 7 U (ym U)<|Zht 8 U (yn U) ?_;refine Zht 9 U (yf 4 U)<|Zht 10 U (yf 1 U)<|Zht 11 U (yd 4 U U U)<|Zht 12 U (ym U)<|Zht 13 U (yn U)<|Zht 14 U (yf 4 U)<|Zht 15 U (yf 2 U)<|Zht 16 U (yd 4 U U U)<|Zht 17 U (ym U)<|Zht 18 U (yn U) ?_
 refine Zht 19 U (yf 4 U)<|Zht 20 U (yf 3 U)<|Zht 21 U (yd 4 U U U)<|Zht 22 U (yb l51 U) ?_;have ok':(c.setB (EJ c.B (Fz a))).Ok k:=⟨ok.h,ok.cu,ok.cl,ok.s0,ok.s1,ok.f0,ok.f1,ok.res⟩
 refine ZH1 23<|Zok (gF bb c.B (Fz a) so) [0] U U U<|Zqh 1 U<|Zht 24 U (yeq U U)<|ZH1 25<|Zok (UN ..) [] U U U<|⟨?_,?_⟩
 refine fun a_1=>Zqh 1 rfl<|Zhn (by kernel_rfl)<|Znx<|Zsr<|Zv (ym rfl) ?_;rotate_left;refine fun a_1=>Dl<|Zp1 ?_;rotate_left
 ·rw[show FA c d w a=Bm (c.setB (EJ c.B (Fz a))) d w Gx (-1) from if_pos (of_decide_eq_true a_1)] at hS;dsimp only[AcS,Bm] at hS;refine Zfl [2,2,0,1] (Az (c:=c.setB (EJ c.B (Fz a))) ok') U<|Zk (UP ..) [2,0,2] U U<|Zq<|Ze (esw 3 (m:=20) U U U U U (Enc.len ..) (Enc.allL ..))<|Zw0<|Znr<|Zre (.wh 3 (m:=20) U U (Enc.len ..) .n) hS [0,0,2,0] 1 U U U U
 ·rw[show FA c d w a=Bi (c.setB (EJ c.B (Fz a))) d [] from if_neg (of_decide_eq_false a_1)] at hS;dsimp only[AcS,Bi] at hS;refine Zfx [2,2,0,1] (Az (c:=c.setB (EJ c.B (Fz a))) ok') U ?_;refine Zix (fun _ hs=>Ag (E:=Al) hs) ?_;refine Zpe (hS none 0) [0,2,0,1,1] 1 U U
def Fi (c:Cor) (d:CD) (w:Int):Hg:=if c.B=[] then Bm c d w Gx (-1) else Bi c d []
theorem fU (b bc bk k:Nat) (pick w:Int) (a:Acc) (c:Cor) (d:CD):Sp Tryz.prog 217 [pt b] (Ih b bc bk k pick w a c d) (AcS b bc bk k pick w a (Fi c d w)):=by
 refine Zen Tryz.func217 U U U fun e X Φ hS=>?_;refine Zsr<|Ze (eal z53) fun b2=>Zw<|Zns<|Zm U<|Zk (UU ..) [1,1] U U<|⟨?_,?_⟩
 refine fun a_1=>Zq<|Znl<|Znx<|Zsr<|Zv (ym rfl)<|Zk (UP ..) [0,0,2] rfl rfl<|Zq<|Ze (esw 3 (m:=20) rfl rfl rfl rfl rfl (Enc.len ..) (Enc.allL ..))<|Zw0<|Znl ?_;refine Zxr ?_;rotate_left;refine fun a_1=>Zqp<|Zp1 ?_;rotate_left
 ·rw[show Fi c d w=Bm c d w Gx (-1) from if_pos a_1] at hS;dsimp only[AcS,Bm] at hS;refine Zre (.wh 3 (m:=20) U U (Enc.len ..) .n) hS [0,0,2,0] 1 U U U U
 ·rw[show Fi c d w=Bi c d [] from if_neg a_1] at hS;dsimp only[AcS,Bi] at hS;refine Zix (fun _ hs=>Ag (E:=Al) hs) ?_;refine Zpe (hS none 0) [0,0,0,1,1] 1 U U
instance (n:Int):Decidable (U32 n):=inferInstanceAs (Decidable (0≤n∧n<4294967296))
def Hn (d:CD) (a:Acc) (wr:Bool) (pick:Int):CD × List Msg × Int:=if h:U32 a.addr then askF d (a.addr/16) (Cf h).2 wr pick else(d,[],0)
def FX (c:Cor) (d:CD) (a:Acc) (wr:Bool) (pick:Int):Hg:=Bi c (Hn d a wr pick).1 (Hn d a wr pick).2.1
def Kl (c:Cor) (d:CD) (w pick:Int) (a:Acc):Hg:=if(B8 d.L a.addr a.width).2=0 then Bm c d w ⟨(B8 d.L a.addr a.width).1,false⟩ (-1) else FX c d a false pick
theorem RD {d:CD} {a:Acc} {wr:Bool} {pick:Int} (h:U32 a.addr):Hn d a wr pick=askF d (a.addr/16) (Cf h).2 wr pick:=dif_pos h
def GR (c:Cor) (d:CD) (w pick:Int) (a:Acc):Hg:=
 if(fwd c.B a.addr a.width).2=2 then Bi c d []
 else if(fwd c.B a.addr a.width).2=1 then Bm c d w ⟨(fwd c.B a.addr a.width).1,false⟩ (Qd c a)
 else Kl c d w pick a
theorem fS (b bc bk k:Nat) (pick w:Int) (a:Acc) (c:Cor) (d:CD) (ao:a.Ok) (hp : -9223372036854775808≤pick∧pick≤9223372036854775807) (hk:k≤1000000):Sp Tryz.prog 215 [pt b] (Ih b bc bk k pick w a c d) (AcS b bc bk k pick w a (GR c d w pick a)):=by
 refine Zen Tryz.func215 U U U fun e X Φ hS=>Zoc 1 CO U<|fun ok A cap bb pr hpr=>?_;refine Zsr<|Ze (eal z53) fun b2=>Zw<|Znq ?_;refine Zhd [3] U U<|Zht 0 U (ym U)<|Zht 1 U (yn U)<|Zht 2 U (yf 0 U)<|Zht 3 U (yd 4 U U U)<|Zht 4 U (yn U)<|Zht 5 U (yf 37 U)<|Zht 6 U (yd 1 U U (Bj 2 U U))<|Zht 7 U (ym U)<|Zht 8 U (yn U) ?_;refine Zht 9 U (yf 4 U)<|Zht 10 U (yf 1 U)<|Zht 11 U (yd 4 U U U)<|Zht 12 U (ym U)<|Zht 13 U (yn U)<|Zht 14 U (yf 4 U)<|Zht 15 U (yf 2 U)<|Zht 16 U (yd 4 U U U) ?_
 refine ZH1 17<|Zok (gC bb c.B a.addr a.width ao.ad) [0] U U U<|Zqh 1 U<|Zht 18 U (ym U)<|Zht 19 U (yx U U)<|Zht 20 U (yx U U)<|Zht 21 U (ya U)<|Zht 22 U (ya U)<|ZHn<|Zxs ?_;refine Zb 2 U<|Zk (UN ..) [] U U<|⟨?_,?_⟩
 refine fun a_1=>Zq<|Znl<|Znx ?_;rotate_left;refine fun a_1=>Zqp<|Zp1 ?_;rotate_left
 ·refine Zfc [2,2,0,1] (Az (c:=c) ok) U<|Zsq<|Zsr<|Zb 2 U<|Zn<|Zif U (fun h30=>?_) (fun h30=>?_);refine Zsr<|Zb 2 U<|Zv (yb l46 U)<|Zm U ?_;rotate_left;refine Zks<|Zb 2 U ?_;rotate_left
  ·have h2:¬(fwd c.B a.addr a.width).2=2:=of_decide_eq_true a_1;rw[show GR c d w pick a=Bm c d w ⟨(fwd c.B a.addr a.width).1,false⟩ (Qd c a) from(if_neg h2).trans (if_pos h30)] at hS;dsimp only[AcS,Bm] at hS;refine Zk (gD b bc bk k pick w a c hk) [2,0] U U<|Zq ?_;refine Zk (Mt b bc bk k pick w (Qd c a) a ⟨(fwd c.B a.addr a.width).1,false⟩ c) [0,0,2] U U<|Zq<|Ze (esw 3 (m:=20) U U U U U (Enc.len ..) (Enc.allL ..))<|Zw0<|Znr<|Zr1<|Zre (.wh 3 (m:=20) U U (Enc.len ..) .n) hS [0,0,2,0] 1 U U U U
  ·have h2:¬(fwd c.B a.addr a.width).2=2:=of_decide_eq_true a_1;rw[show GR c d w pick a=Kl c d w pick a from(if_neg h2).trans (if_neg h30)] at hS;refine Zk (ZI b bc bk pick w a d ao.ad hp) [2,2] U U<|⟨?_,?_⟩
   refine fun a_2=>Zq<|Zv (yb l46 rfl) ?_;rotate_left;refine fun a_2=>fun A_1=>fun cap_1=>Zqp<|Zp1 ?_;rotate_left
   ·rw[show Kl c d w pick a=Bm c d w ⟨(B8 d.L a.addr a.width).1,false⟩ (-1) from if_pos a_2] at hS;dsimp only[AcS,Bm] at hS;refine Zk (Mt b bc bk k pick w (-1) a ⟨(B8 d.L a.addr a.width).1,false⟩ c) [0,1,2] U U<|Zq<|Ze (esw 4 (m:=20) U U U U U (Enc.len ..) (Enc.allL ..))<|Zw0<|Znr<|Zre (.wh 4 (m:=20) U U (Enc.len ..) .n) hS [0,0,1,0] 1 U U U U
   ·rw[show Kl c d w pick a=FX c d a false pick from if_neg a_2] at hS;dsimp only[AcS,FX,Bi] at hS;rw[RD ao.ad] at hS;refine Zpe (hS _ _) [0,0,1,0,1] 1 U U
 ·have h2:(fwd c.B a.addr a.width).2=2:=Decidable.not_not.1 (of_decide_eq_false a_1);rw[show GR c d w pick a=Bi c d [] from if_pos h2] at hS;dsimp only[AcS,Bi] at hS;refine Zfx [2,2,0,1] (Az (c:=c) ok) U ?_;refine Zix (fun _ hs=>Ag (E:=Al) hs) ?_;refine Zpe (hS none 0) [0,2,0,1,1] 1 U U
def lrR (c:Cor) (d:CD) (w pick:Int) (a:Acc):Hg:=
 if c.B=[] then(if(B8 d.L a.addr a.width).2=0 then Bm (c.setR (some a.addr)) d w ⟨(B8 d.L a.addr a.width).1,false⟩ (-1) else FX c d a false pick) else Bi c d []
theorem fV (b bc bk k:Nat) (pick w:Int) (a:Acc) (c:Cor) (d:CD) (ao:a.Ok) (hp : -9223372036854775808≤pick∧pick≤9223372036854775807):Sp Tryz.prog 218 [pt b] (Ih b bc bk k pick w a c d) (AcS b bc bk k pick w a (lrR c d w pick a)):=by
 refine Zen Tryz.func218 U U U fun e X Φ hS=>?_;refine Zsr<|Ze (eal z53) fun b2=>Zw<|Zns<|Zm U<|Zk (UU ..) [1,1] U U<|⟨?_,?_⟩
 refine fun a_1=>Zq<|Znl<|Znx<|Zsr<|Zv (ym rfl) ?_;rotate_left;refine fun a_1=>Zqp<|Zp1 ?_;rotate_left
 ·refine Zk (ZI b bc bk pick w a d ao.ad hp) [0,2] U U<|⟨?_,?_⟩
  refine fun a_2=>Zq<|Zv (ya rfl)<|Znl<|Znx<|Zsr<|Zv (ym rfl)<|Zv (yn rfl)<|Zv (yf 4 rfl)<|Zv (yf 1 rfl) ?_;refine Zv (yd 0 U U U)<|Ze (eal z40) fun b4=>Zw<|Ze (es 0 U U U U U)<|Zw0<|Zns<|Za 4 [0,1] U U ?_;refine Za 2 [39] U U ?_;rotate_left;refine fun a_2=>fun A=>fun cap=>Zqp<|Zp1 ?_;rotate_left
  ·rw[show lrR c d w pick a=Bm (c.setR (some a.addr)) d w ⟨(B8 d.L a.addr a.width).1,false⟩ (-1) from(if_pos a_1).trans (if_pos a_2)] at hS;dsimp only[AcS,Bm] at hS;refine Zol 3 CO U<|fun ok A cap bb pr hpr=>Ze (es 0 U U U (E5 4 U U) U)<|Zw0<|Zns<|Zb 2 U<|Zv (yb l46 U) ?_;have ok':(c.setR (some a.addr)).Ok k:=⟨ok.h,ok.cu,ok.cl,ok.s0,ok.s1,ok.f0,ok.f1,fun x h=>by cases h;exact ao.ad⟩
   refine Zfl [4] (Tw (a:=some a.addr) (b:=b4) (x:=a.addr) U) U ?_;refine Zfl [1,1,1,0] (Az (c:=c.setR (some a.addr)) ok') U ?_;refine Zk (Mt b bc bk k pick w (-1) a ⟨(B8 d.L a.addr a.width).1,false⟩ (c.setR (some a.addr))) [2,0,3] U U<|Zq<|Ze (esw 5 (m:=20) U U U U U (Enc.len ..) (Enc.allL ..))<|Zw0<|Znr<|Zre (.wh 5 (m:=20) U U (Enc.len ..) .n) hS [0,0,2,0] 2 U U U U
  ·rw[show lrR c d w pick a=FX c d a false pick from(if_pos a_1).trans (if_neg a_2)] at hS;dsimp only[AcS,FX,Bi] at hS;rw[RD ao.ad] at hS;refine Zpe (hS _ _) [0,0,1,0,1] 1 U U
 ·rw[show lrR c d w pick a=Bi c d [] from if_neg a_1] at hS;dsimp only[AcS,Bi] at hS;refine Zix (fun _ hs=>Ag (E:=Al) hs) ?_;refine Zpe (hS none 0) [0,0,0,1,1] 1 U U
theorem Gy {d:CD} {a:Acc} {wr:Bool} {pick:Int} (h:U32 a.addr):Hn d a wr pick=askF d (a.addr/16) (Cf h).2 wr pick:=dif_pos h
def Jw (c:Cor) (a:Acc):Bool:=match c.res with|some x=>decide (x=a.addr)|none=>false
def scR (c:Cor) (d:CD) (w pick:Int) (a:Acc):Hg:=
 if c.B≠[] then Bi c d []
 else if Jw c a=true then(if Ap (stateOf d.L (a.addr/16))=true then Bm (c.setR none) (AQ d a.addr a.width a.value).1 w ⟨0,true⟩ (-1) else FX c d a true pick)
 else Bm (c.setR none) d w ⟨0,false⟩ (-1)
def La (c:Cor) (d:CD) (w pick:Int) (a:Acc):Hg:=
 if c.B≠[] then Bi c d []
 else if Ap (stateOf d.L (a.addr/16))=true then Bm c (AQ d a.addr a.width (Uy a.op (B8 d.L a.addr a.width).1 a.value).1).1 w ⟨(B8 d.L a.addr a.width).1,false⟩ (-1)
 else FX c d a true pick
theorem fX (b bc bk k:Nat) (pick w:Int) (a:Acc) (c:Cor) (d:CD) (ao:a.Ok) (hp : -9223372036854775808≤pick∧pick≤9223372036854775807):Sp Tryz.prog 220 [pt b] (Ih b bc bk k pick w a c d) (AcS b bc bk k pick w a (La c d w pick a)):=by
 refine Zen Tryz.func220 U U U fun e X Φ hS=>?_;refine Zsr<|Ze (eal z53) fun b2=>Zw<|Zns<|Zm U<|Zk (UU ..) [1,1] U U<|⟨?_,?_⟩
 refine fun a_1=>Zq<|Znl<|Znx<|Zsr<|Zv (ym rfl) ?_;rotate_left;refine fun a_1=>Zqp<|Zp1 ?_;rotate_left
 ·refine Zk (ZJ b bc bk pick w a d ao.ad hp) [0,2] U U<|⟨?_,?_⟩
  refine fun a_2=>Zq<|Znl<|Znx<|Zsq ?_;rotate_left;refine fun a_2=>fun A=>fun cap=>Zqp<|Zp1 ?_;rotate_left
  ·rw[show La c d w pick a=Bm c (AQ d a.addr a.width (Uy a.op (B8 d.L a.addr a.width).1 a.value).1).1 w ⟨(B8 d.L a.addr a.width).1,false⟩ (-1) from(if_neg (fun h=>h a_1)).trans (if_pos a_2)] at hS;dsimp only[AcS,Bm] at hS;refine Zhd [1] U U<|Zht 0 U (ym U)<|Zht 1 U (yn U)<|Zht 2 U (yf 1 U)<|Zht 3 U (yd 0 U U U)<|Zht 4 U (ym U)<|Zht 5 U (yn U)<|Zht 6 U (yf 4 U)<|Zht 7 U (yf 1 U)<|Zht 8 U (yd 0 U U U) ?_;refine Zht 9 U (ym U)<|Zht 10 U (yn U)<|Zht 11 U (yf 4 U)<|Zht 12 U (yf 2 U)<|Zht 13 U (yd 0 U U U) ?_
   refine ZH1 14<|Zok (ZK bk d a.addr a.width ao.ad) [0] U U U<|Zqh 1 U<|Zht 15 U (ym U)<|Zht 16 U (yx U U)<|Zht 17 U (yx U U)<|Zht 18 U (ya U)<|Zht 19 U (ya U)<|ZHn<|Zxq ?_;refine Zhd [] U U<|Zht 0 U (ym U)<|Zht 1 U (yn U)<|Zht 2 U (yf 4 U)<|Zht 3 U (yf 4 U)<|Zht 4 U (yd 1 U U U)<|Zht 5 U (ym U)<|Zht 6 U (ym U)<|Zht 7 U (yn U)<|Zht 8 U (yf 4 U) ?_;refine Zht 9 U (yf 3 U)<|Zht 10 U (yd 1 U U U)<|ZH1 11<|Zok (gG ..) [] U U U<|fun x=>fun e_1=>fun a_3=>Zqh 0 U<|Zht 12 U (ym U)<|Zht 13 U (yx U U)<|Zht 14 U (yx U U) ?_;refine Zht 15 U (ya U)<|Zht 16 U (ya U)<|ZHn<|Zxq ?_;rw[a_3] at hS
   refine Zhd [0] U U<|Zht 0 U (ym U)<|Zht 1 U (yn U)<|Zht 2 U (yf 1 U)<|Zht 3 U (yd 0 U U U)<|Zht 4 U (ym U)<|Zht 5 U (yn U)<|Zht 6 U (yf 4 U)<|Zht 7 U (yf 1 U)<|Zht 8 U (yd 0 U U U) ?_;refine Zht 9 U (ym U)<|Zht 10 U (yn U)<|Zht 11 U (yf 4 U)<|Zht 12 U (yf 2 U)<|Zht 13 U (yd 0 U U U)<|Zht 14 U (ym U) ?_;refine ZH1 15<|Zok (W4 bk d a.addr a.width x ao.ad) [0] U U U<|Zqh 1 U<|ZHn<|Zxs<|Zb 2 U<|Zv (yb l46 U) ?_
   refine Zk (Mt b bc bk k pick w (-1) a ⟨(B8 d.L a.addr a.width).1,false⟩ c) [1,1,2] U U<|Zq<|Ze (esw 4 (m:=20) U U U U U (Enc.len ..) (Enc.allL ..))<|Zw0<|Znr<|Zre (.wh 4 (m:=20) U U (Enc.len ..) .n) hS [0,0,1,0] 1 U U U U
  ·rw[show La c d w pick a=FX c d a true pick from(if_neg (fun h=>h a_1)).trans (if_neg (by rw[a_2];decide))] at hS;dsimp only[AcS,FX,Bi] at hS;rw[Gy ao.ad] at hS;refine Zpe (hS _ _) [0,0,1,0,1] 1 U U
 ·rw[show La c d w pick a=Bi c d [] from if_pos a_1] at hS;dsimp only[AcS,Bi] at hS;refine Zix (fun _ hs=>Ag (E:=Al) hs) ?_;refine Zpe (hS none 0) [0,0,0,1,1] 1 U U
theorem fW (b bc bk k:Nat) (pick w:Int) (a:Acc) (c:Cor) (d:CD) (ao:a.Ok) (hp : -9223372036854775808≤pick∧pick≤9223372036854775807):Sp Tryz.prog 219 [pt b] (Ih b bc bk k pick w a c d) (AcS b bc bk k pick w a (scR c d w pick a)):=by
 refine Zen Tryz.func219 U U U fun e X Φ hS=>?_;refine Zsr<|Ze (eal z53) fun b2=>Zw<|Zns<|Zm U<|Zk (UU ..) [1,1] U U<|⟨?_,?_⟩
 refine fun a_1=>Zq<|Znl<|Znx<|Zsq ?_;rotate_left;refine fun a_1=>Zqp<|Zp1 ?_;rotate_left
 ·refine Zoc 1 CO U<|fun ok A cap bb pr hpr=>?_;have ok':(c.setR none).Ok k:=⟨ok.h,ok.cu,ok.cl,ok.s0,ok.s1,ok.f0,ok.f1,fun x h=>(by cases h)⟩
  rcases Option.eq_none_or_eq_some c.res with hr|⟨y,hr⟩
  ·have hpn:=GY hpr hr;subst hpn;have hk:Jw c a=false:=by unfold Jw;rw[hr]
   rw[show scR c d w pick a=Bm (c.setR none) d w ⟨0,false⟩ (-1) from(if_neg (fun h=>h a_1)).trans (if_neg (by rw[hk];decide))] at hS;dsimp only[AcS,Bm] at hS;refine Zhd [] U U<|Zht 0 U (ym U)<|Zht 1 U (yn U)<|Zht 2 U (yf 0 U)<|Zht 3 U (yd 4 U U U)<|Zht 4 U (yn U)<|Zht 5 U (yf 39 U)<|Zht 6 U (yd 0 U U (Bj 4 U U))<|Zht 7 U (DN U U U)<|Zht 8 U (ym U) ?_;refine Zhu 9 U U U U<|Zhu 10 U U U U<|Zhu 11 U U U U<|Zhu 12 U U U U<|Zhu 13 U U U U<|Zhu 14 U U U U<|Zhu 15 U U U U<|Zhu 16 U U U U<|Zhu 17 U U U U<|Zhu 18 U U U U ?_
   refine Zhu 19 U U U U<|Zhu 20 U U U U<|Zhu 21 U U U U<|Zhu 22 U U U U<|Zhu 23 U U U U<|Zht 24 U (ypf U U)<|Zht 25 U (ya U)<|ZHn<|Zxq ?_;refine Zsr<|Zm U<|Zn<|Zcf U<|Zks<|Zb 2 U ?_;refine Za 4 [0,4,39] U U<|Ze (es 0 U U U (E5 4 U U) U)<|Zw0<|Zns<|Zb 2 U ?_;refine Zv (yb l46 U) ?_;refine Zfl [] (JP (a:=none) U) U ?_;refine Zfl [1,1,1,0] (Az (c:=c.setR none) ok') U ?_;refine Zk (Mt b bc bk k pick w (-1) a ⟨0,false⟩ (c.setR none)) [2,0,3] U U<|Zq<|Ze (esw 4 (m:=20) U U U U U (Enc.len ..) (Enc.allL ..))<|Zw0<|Znr<|Zre (.wh 4 (m:=20) U U (Enc.len ..) .n) hS [0,0,3,0] 2 U U U U
  ·have hk:Jw c a=decide (y=a.addr):=by unfold Jw;rw[hr]
   rw[hr];refine Zoc 3 P1 U<|fun ba ea=>?_;subst ea;refine Zhd [] U U<|Zht 0 U (ym U)<|Zht 1 U (yn U)<|Zht 2 U (yf 0 U)<|Zht 3 U (yd 4 U U U)<|Zht 4 U (yn U)<|Zht 5 U (yf 39 U)<|Zht 6 U (yd 1 U U (Bj 4 U U))<|Zht 7 U (DN U U U)<|Zht 8 U (ym U) ?_;refine Zhg 9 U U U (ym U)<|Zhg 10 U U U (yn U)<|Zhg 11 U U U (yf 0 U)<|Zhg 12 U U U (yd 4 U U U)<|Zhg 13 U U U (yn U)<|Zhg 14 U U U (yf 39 U)<|Zhg 15 U U U (yd 1 U U (Bj 4 U U))<|Zhg 16 U U U (yn U)<|Zhg 17 U U U (yd 0 U U U)<|Zhg 18 U U U (ym U) ?_
   refine Zhg 19 U U U (yn U)<|Zhg 20 U U U (yf 4 U)<|Zhg 21 U U U (yf 1 U)<|Zhg 22 U U U (yd 4 U U U)<|Zhg 23 U U U (yeq U U)<|Zht 24 U (ypt U U)<|Zht 25 U (ya U)<|ZHn<|Zxq ?_;refine Zsr<|Zm U<|Zn<|Zif U (fun h31=>?_) (fun h31=>?_);refine Zsr<|Zm U ?_;rotate_left;refine Zks<|Za 6 [0,4,39] U U<|Ze (es 1 U U U (E5 4 U U) U)<|Zw0 ?_;refine Zns<|Zb 2 U<|Zv (yb l46 U) ?_;rotate_left
   ·have hk1:Jw c a=true:=hk.trans (dT h31);refine Zk (ZJ b bc bk pick w a d ao.ad hp) [4,5] U U<|⟨?_,?_⟩
    refine fun a_2=>Zq<|Znl<|Znx ?_;rotate_left;refine fun a_2=>fun A_1=>fun cap_1=>Zqp<|Zp1<|Zp1 ?_;rotate_left
    ·rw[show scR c d w pick a=Bm (c.setR none) (AQ d a.addr a.width a.value).1 w ⟨0,true⟩ (-1) from(if_neg (fun h=>h a_1)).trans ((if_pos hk1).trans (if_pos a_2))] at hS;dsimp only[AcS,Bm] at hS;refine Zhd [1] U U<|Zht 0 U (ym U)<|Zht 1 U (yn U)<|Zht 2 U (yf 1 U)<|Zht 3 U (yd 0 U U U)<|Zht 4 U (ym U)<|Zht 5 U (yn U)<|Zht 6 U (yf 4 U)<|Zht 7 U (yf 1 U)<|Zht 8 U (yd 0 U U U) ?_;refine Zht 9 U (ym U)<|Zht 10 U (yn U)<|Zht 11 U (yf 4 U)<|Zht 12 U (yf 2 U)<|Zht 13 U (yd 0 U U U)<|Zht 14 U (ym U)<|Zht 15 U (yn U)<|Zht 16 U (yf 4 U)<|Zht 17 U (yf 3 U)<|Zht 18 U (yd 0 U U U) ?_
     refine ZH1 19<|Zok (W4 bk d a.addr a.width a.value ao.ad) [0] U U U<|Zqh 1 U<|ZHn<|Zxs<|Za 5 [0,1] U U ?_;refine Zv (yf 39 U)<|Ze (es 3 U U U (E5 4 U U) U)<|Zw0<|Zns<|Zb 2 U<|Zv (yb l46 U) ?_;refine Zfl [] (JP (a:=none) U) U ?_;refine Zfl [4,4,4,0] (Az (c:=c.setR none) ok') U ?_;rw[dT h31];refine Zk (Mt b bc bk k pick w (-1) a ⟨0,true⟩ (c.setR none)) [2,0,3] U U<|Zq<|Ze (esw 5 (m:=20) U U U U U (Enc.len ..) (Enc.allL ..))<|Zw0<|Znr<|Zre (.wh 5 (m:=20) U U (Enc.len ..) .n) hS [0,0,1,0] 2 U U U U
    ·rw[show scR c d w pick a=FX c d a true pick from(if_neg (fun h=>h a_1)).trans ((if_pos hk1).trans (if_neg (by rw[a_2];decide)))] at hS;dsimp only[AcS,FX,Bi] at hS;rw[Gy ao.ad] at hS;refine Zfx [3] (Tw (b:=ba) hr) U ?_;refine Zfx [4,4,4,0] (Az (c:=c) ok) U ?_;refine Zpe (hS _ _) [1,1,0,0,1] 1 U U
   ·have hk0:¬Jw c a=true:=by rw[hk,dF h31];decide
    rw[show scR c d w pick a=Bm (c.setR none) d w ⟨0,false⟩ (-1) from(if_neg (fun h=>h a_1)).trans (if_neg hk0)] at hS;dsimp only[AcS,Bm] at hS;refine Zfl [] (JP (a:=none) U) U ?_;refine Zfl [2,2,2,0] (Az (c:=c.setR none) ok') U ?_;rw[dF h31];refine Zk (Mt b bc bk k pick w (-1) a ⟨0,false⟩ (c.setR none)) [2,0,3] U U<|Zq<|Ze (esw 4 (m:=20) U U U U U (Enc.len ..) (Enc.allL ..))<|Zw0<|Znr<|Zre (.wh 4 (m:=20) U U (Enc.len ..) .n) hS [0,0,3,0] 2 U U U U
 ·rw[show scR c d w pick a=Bi c d [] from if_pos a_1] at hS;dsimp only[AcS,Bi] at hS;refine Zix (fun _ hs=>Ag (E:=Al) hs) ?_;refine Zpe (hS none 0) [0,0,0,1,1] 1 U U
theorem kO (p q r:Value):Ct Tryz.prog 213 [p,q,r] .returning .returning [] []:=by refine Ml Tryz.func213 U U U U U U (fun _ _=>U) (.inl ⟨U,U,U⟩) fun e X c₀ cs=>?_;refine Zbl<|Zsr<|Zv (yii Tryz.underlying20 U)<|Zn<|Zct U<|Zrg<|Zy U<|Znl<|Zxn ?_;refine ZeS [] 0 (fun w' hp=>⟨U,U,hp⟩) U U
def U7 (id:Int):Did:=⟨0,id,Oa,BI,0⟩
theorem kC (bi bd bm:Nat) (id:Int) (x:Did) (v:Value) (A:Option Addr) (n cap:Nat):Ct Tryz.prog 213 [pt bi,pt bd,pt bm] (pa (.iface 333 (.agg #[.slice A n cap])) false) (pa (.iface 333 (.agg #[.slice A n cap])) true) [.blk bi 3 [.int .i64 id],.blk bd 53 (Cg.cells x),.blk bm 112 [v]] [.blk bi 3 [.int .i64 id],.blk bd 53 (Cg.cells (U7 id)),.blk bm 112 [.slice A n cap]]:=by
 refine Ml Tryz.func213 U U U U U U (fun _ _=>U) (.inr ⟨U,U⟩) fun e X c₀ cs=>?_;refine Zbl<|Zsr<|Zv (yin Tryz.underlying20 U)<|Zn<|Zcf U<|Zsr<|Zv (yta Tryz.underlying333 U U)<|Zb 2 U ?_;refine Zn<|Zct U<|Zsr<|Ze (eal lM) fun b4=>Zw<|Ze (esw 0 (m:=1) U U U U U U U)<|Zw0<|Zn ?_;refine Zhd [2,2] U U<|Zht 0 U (yd 1 U U U)<|Zht 1 U (yb l53 U)<|Zht 2 U (yf 0 U)<|Zht 3 U (yd 0 U U U)<|ZH1 4<|Zoe U (esw 0 (m:=20) U U U U (Enc.len ..) U U)<|Ay 2 U<|ZH1 5<|Zoe U (es 1 U U U U U)<|Ay 2 U<|ZHn<|Zxn ?_;refine ZeS [3,0,0] 1 (fun w' hp=>⟨U,U,hp⟩) U U
def ClS (r:Except (List Msg) Did) (p':HP) (K:Out):Prop:=match r with
 | .ok did=>K (.returned (.agg (Cg.arr did))) [.hp p']
 | .error ms=>∀A cap,K (.panicked (Ic A ms.length cap)) [.hp (own Al A cap ms),.hp p']
def MC (id:Int):Except (List Msg) Did→Did | .ok d=>d | .error _=>U7 id
def DS:Except (List Msg) Did→List Msg | .ok _=>[] | .error ms=>ms
theorem WZ (f:Nat) (cs:List Value) (p p':HP) (r:Except (List Msg) Did) (id:Int) (hc:Sp Tryz.prog f cs [.hp p] (ClS r p')) (hok:Bq Tryz.prog f=true):Sp Tryz.prog 180 [.int .i64 id,.func (.func f) #[] cs.toArray] [.hp p] fun K=>∀A cap,K (.returned (.tuple #[.agg (Cg.arr (MC id r)),.slice A (DS r).length cap])) [.hp (own Al A cap (DS r)),.hp p']:=by
 refine Rq Tryz.func180 U U U fun e X Φ hS=>?_;refine Zsr<|Ze (ebx U) fun b2=>Zw<|Ze (eal z53) fun b4=>Zw<|Ze (eal dQ) fun b5=>Zw<|Zns<|Zv (yfn U U)<|Zdv U U<|Znl ?_;refine Zxs<|Zm U ?_;cases r with
 | ok did=>
  refine Zkv hc [3] U U U U<|Zq<|Ze (esw 2 (m:=20) U U U U U (Enc.len ..) (Enc.allL ..))<|Zw0<|Ze (es 1 U U U U U)<|Zw0<|Znr ?_;refine Zix (fun _ hs=>Ag (E:=Al) hs) ?_;refine ZrD (kO _ _ _) [] U (.wh 3 (m:=20) U U (Enc.len ..) (.c 2 U U U .n)) (hS none 0) [0,0] 3 U U U
 | error ms=>
  refine Zkv hc [3] U U U U<|fun A cap=>Zqp<|Zp1 ?_;refine ZpD (kC b2 b4 b5 id GE _ _ _ _) [4,3,2] U (.wh 1 (m:=20) U U (Enc.len ..) (.c 2 U U U .n)) (hS A cap) [3,3] 3 U U U
def aU:List (Int × Value):=[(5,.func (.func 220) #[] #[]),(4,.func (.func 219) #[] #[]),(3,.func (.func 218) #[] #[]),(6,.func (.func 217) #[] #[]),(2,.func (.func 216) #[] #[]),(1,.func (.func 215) #[] #[]),(0,.func (.func 214) #[] #[])]
theorem Hr:Sp Tryz.prog 182 [] [] fun K=>∀r,K (.returned (.map (some r))) [F1 .i64 r aU]:=by
 refine Zen Tryz.func182 U U U fun e X Φ hS=>Zsr<|Zy U<|Zns<|Ze (emk .i64) fun r1=>Zw<|Ze (ein 0 U U U U U U Tryz.underlying298 Tryz.underlying41)<|Zw0<|Ze (ein 0 U U U U U U Tryz.underlying298 Tryz.underlying41)<|Zw0<|Ze (ein 0 U U U U U U Tryz.underlying298 Tryz.underlying41)<|Zw0 ?_
 refine Ze (ein 0 U U U U U U Tryz.underlying298 Tryz.underlying41)<|Zw0<|Ze (ein 0 U U U U U U Tryz.underlying298 Tryz.underlying41)<|Zw0<|Ze (ein 0 U U U U U U Tryz.underlying298 Tryz.underlying41)<|Zw0<|Ze (ein 0 U U U U U U Tryz.underlying298 Tryz.underlying41)<|Zw0<|Zb 2 U<|Znr<|Zre (.t U .n) (hS _) [0] 0 U U U U
def DA (c:Cor) (d:CD) (w pick:Int) (a:Acc):Hg:=
 if a.kind=1 then GR c d w pick a else if a.kind=2 then FA c d w a else if a.kind=3 then lrR c d w pick a
 else if a.kind=4 then scR c d w pick a else if a.kind=5 then La c d w pick a else if a.kind=6 then Fi c d w else Bm c d w Gx (-1)
def goP (b1 b2 ba bc bk k:Nat) (pick w:Int) (a:Acc) (c:Cor) (d:CD):HP:=Sep (.blk b1 44 (N0.cells a) :: .blk b2 292 [pt ba]::Ih ba bc bk k pick w a c d)
theorem DY {b1 b2 ba bc bk k:Nat} {pick w:Int} {a:Acc} {c:Cor} {d:CD}:Op_ (goP b1 b2 ba bc bk k pick w a c d) fun K=>K (.blk b1 44 (N0.cells a) :: .blk b2 292 [pt ba]::Ih ba bc bk k pick w a c d) := .mk fun G k h hh=>⟨_,k,hh⟩
theorem B0 {b1 b2 ba bc bk k:Nat} {pick w:Int} {a:Acc} {c:Cor} {d:CD}:∀h,Sep [.blk b1 44 (N0.cells a),.blk b2 292 [pt ba],.blk ba 294 (BO bc bk pick w a),.hp (Br k bc c),.hp (AK bk d),spC] h→goP b1 b2 ba bc bk k pick w a c d h:=fun _ hs=>hs
section
variable {b bc bk k f:Nat} {pick w:Int} {a:Acc} {c:Cor} {d:CD} {args:List Value} {L:List Ck}
theorem Hi {did:Did} (h:Sp Tryz.prog f args L (AcS b bc bk k pick w a (c,d,.ok did))):Sp Tryz.prog f args L fun K=>K (.returned (.agg (Cg.arr did))) (Ih b bc bk k pick w a c d):=h
theorem Hh {ms:List Msg} (h:Sp Tryz.prog f args L (AcS b bc bk k pick w a (c,d,.error ms))):Sp Tryz.prog f args L fun K=>∀A cap,K (.panicked (Ic A ms.length cap)) (.hp (own Al A cap ms)::Ih b bc bk k pick w a c d):=h
end
theorem Zr (ga gb ba bc bk k:Nat) (pick w:Int) (a:Acc) (c:Cor) (d:CD) (ao:a.Ok) (hp : -9223372036854775808≤pick∧pick≤9223372036854775807) (hk:k≤1000000):Sp Tryz.prog 181 [pt ga,pt gb] [.hp (goP ga gb ba bc bk k pick w a c d)] (ClS (DA c d w pick a).2.2 (goP ga gb ba bc bk k pick w a (DA c d w pick a).1 (DA c d w pick a).2.1)):=by
 have hkd:a.kind=0∨a.kind=1∨a.kind=2∨a.kind=3∨a.kind=4∨a.kind=5∨a.kind=6:=by have:=ao.k0;have:=ao.k1;omega
 obtain⟨ak,aa,aw,av,aop,aq,ar⟩:=a;rcases hkd with h|h|h|h|h|h|h
 ·have h:ak=0:=h;subst h;have hc:=UP ba bc bk k pick w ⟨0,aa,aw,av,aop,aq,ar⟩ c;rw[show DA c d w pick ⟨0,aa,aw,av,aop,aq,ar⟩=Bm c d w Gx (-1) from rfl];refine Zen Tryz.func181 U U U fun e X Φ hS=>Zoc 0 DY U<|?_;dsimp only[ClS,Bm] at hS;refine Zsr<|Ze (eal z53) fun b2=>Zw<|Znq ?_;refine Zhd [0,2,2,3] U U<|Zht 1 U (yf 0 U)<|Zht 2 U (yd 0 U U U)<|Zht 4 U (yd 1 U U U)<|ZH1 0<|Zok (Hr ..) [] U U U<|fun r=>Zqh 5 U<|ZH1 3<|Zov U (ylk 0 U U U Tryz.underlying298 Tryz.underlying41 EQ)<|ZH1 5<|Dg (UP ..) [2,2,2] U U U U U<|Zqh 5 U ?_
  refine ZH1 6<|Zoe U (esw 4 (m:=20) U U U U U (Enc.len ..) (Enc.allL ..))<|Ay 5 U<|ZHn<|Zxr ?_;refine Zfx [5,5,0,0,3,0] (B0) U<|Zre (.wh 2 (m:=20) U U (Enc.len ..) .n) hS [0] 2 U U U U
 ·have h:ak=1:=h;subst h;have hc:=fS ba bc bk k pick w ⟨1,aa,aw,av,aop,aq,ar⟩ c d ao hp hk;rw[show DA c d w pick ⟨1,aa,aw,av,aop,aq,ar⟩=GR c d w pick ⟨1,aa,aw,av,aop,aq,ar⟩ from rfl];generalize GR c d w pick ⟨1,aa,aw,av,aop,aq,ar⟩=R at hc⊢;obtain⟨c',d',r⟩:=R;cases r with
  | ok did=>
   have hc:=Hi hc;refine Zen Tryz.func181 U U U fun e X Φ hS=>Zoc 0 DY U<|?_;refine Zsr<|Ze (eal z53) fun b2=>Zw<|Znq ?_;refine Zhd [0,2,2,2,2] U U<|Zht 1 U (yf 0 U)<|Zht 2 U (yd 0 U U U)<|Zht 4 U (yd 1 U U U)<|ZH1 0<|Zok (Hr ..) [] U U U<|fun r=>Zqh 6 U<|ZH1 3<|Zov U (ylk 0 U U U Tryz.underlying298 Tryz.underlying41 EQ) ?_;refine ZH1 5<|Dg hc [2,2,2,2] U U U U U<|Zqh 6 U<|ZH1 6<|Zoe U (esw 5 (m:=20) U U U U U (Enc.len ..) (Enc.allL ..))<|Ay 6 U<|ZHn<|Zxr ?_;refine Zfx [6,6,0,0,0,0] (B0) U<|Zre (.wh 2 (m:=20) U U (Enc.len ..) .n) hS [0] 2 U U U U
  | error ms=>
   have hc:=Hh hc;refine Zen Tryz.func181 U U U fun e X Φ hS=>Zoc 0 DY U<|?_;refine Zsr<|Ze (eal z53) fun b2=>Zw<|Znq ?_;refine Zhd [0,2,2,2,2] U U<|Zht 1 U (yf 0 U)<|Zht 2 U (yd 0 U U U)<|Zht 4 U (yd 1 U U U)<|ZH1 0<|Zok (Hr ..) [] U U U<|fun r=>Zqh 6 U<|ZH1 3<|Zov U (ylk 0 U U U Tryz.underlying298 Tryz.underlying41 EQ) ?_;refine ZH1 5<|Dg hc [2,2,2,2] U U U U U<|fun A=>fun cap=>Dl<|Zp1 ?_;refine Zfx [7,7,1,1,1,1] (B0) U ?_;refine Zpe (hS _ _) [1,0] 2 U U
 ·have h:ak=2:=h;subst h;have hc:=fT ba bc bk k pick w ⟨2,aa,aw,av,aop,aq,ar⟩ c d ao;rw[show DA c d w pick ⟨2,aa,aw,av,aop,aq,ar⟩=FA c d w ⟨2,aa,aw,av,aop,aq,ar⟩ from rfl];generalize FA c d w ⟨2,aa,aw,av,aop,aq,ar⟩=R at hc⊢;obtain⟨c',d',r⟩:=R;cases r with
  | ok did=>
   have hc:=Hi hc;refine Zen Tryz.func181 U U U fun e X Φ hS=>Zoc 0 DY U<|?_;refine Zsr<|Ze (eal z53) fun b2=>Zw<|Znq ?_;refine Zhd [0,2,2,2,2] U U<|Zht 1 U (yf 0 U)<|Zht 2 U (yd 0 U U U)<|Zht 4 U (yd 1 U U U)<|ZH1 0<|Zok (Hr ..) [] U U U<|fun r=>Zqh 6 U<|ZH1 3<|Zov U (ylk 0 U U U Tryz.underlying298 Tryz.underlying41 EQ) ?_;refine ZH1 5<|Dg hc [2,2,2,2] U U U U U<|Zqh 6 U<|ZH1 6<|Zoe U (esw 5 (m:=20) U U U U U (Enc.len ..) (Enc.allL ..))<|Ay 6 U<|ZHn<|Zxr ?_;refine Zfx [6,6,0,0,0,0] (B0) U<|Zre (.wh 2 (m:=20) U U (Enc.len ..) .n) hS [0] 2 U U U U
  | error ms=>
   have hc:=Hh hc;refine Zen Tryz.func181 U U U fun e X Φ hS=>Zoc 0 DY U<|?_;refine Zsr<|Ze (eal z53) fun b2=>Zw<|Znq ?_;refine Zhd [0,2,2,2,2] U U<|Zht 1 U (yf 0 U)<|Zht 2 U (yd 0 U U U)<|Zht 4 U (yd 1 U U U)<|ZH1 0<|Zok (Hr ..) [] U U U<|fun r=>Zqh 6 U<|ZH1 3<|Zov U (ylk 0 U U U Tryz.underlying298 Tryz.underlying41 EQ) ?_;refine ZH1 5<|Dg hc [2,2,2,2] U U U U U<|fun A=>fun cap=>Dl<|Zp1 ?_;refine Zfx [7,7,1,1,1,1] (B0) U ?_;refine Zpe (hS _ _) [1,0] 2 U U
 ·have h:ak=3:=h;subst h;have hc:=fV ba bc bk k pick w ⟨3,aa,aw,av,aop,aq,ar⟩ c d ao hp;rw[show DA c d w pick ⟨3,aa,aw,av,aop,aq,ar⟩=lrR c d w pick ⟨3,aa,aw,av,aop,aq,ar⟩ from rfl];generalize lrR c d w pick ⟨3,aa,aw,av,aop,aq,ar⟩=R at hc⊢;obtain⟨c',d',r⟩:=R;cases r with
  | ok did=>
   have hc:=Hi hc;refine Zen Tryz.func181 U U U fun e X Φ hS=>Zoc 0 DY U<|?_;refine Zsr<|Ze (eal z53) fun b2=>Zw<|Znq ?_;refine Zhd [0,2,2,2,2] U U<|Zht 1 U (yf 0 U)<|Zht 2 U (yd 0 U U U)<|Zht 4 U (yd 1 U U U)<|ZH1 0<|Zok (Hr ..) [] U U U<|fun r=>Zqh 6 U<|ZH1 3<|Zov U (ylk 0 U U U Tryz.underlying298 Tryz.underlying41 EQ) ?_;refine ZH1 5<|Dg hc [2,2,2,2] U U U U U<|Zqh 6 U<|ZH1 6<|Zoe U (esw 5 (m:=20) U U U U U (Enc.len ..) (Enc.allL ..))<|Ay 6 U<|ZHn<|Zxr ?_;refine Zfx [6,6,0,0,0,0] (B0) U<|Zre (.wh 2 (m:=20) U U (Enc.len ..) .n) hS [0] 2 U U U U
  | error ms=>
   have hc:=Hh hc;refine Zen Tryz.func181 U U U fun e X Φ hS=>Zoc 0 DY U<|?_;refine Zsr<|Ze (eal z53) fun b2=>Zw<|Znq ?_;refine Zhd [0,2,2,2,2] U U<|Zht 1 U (yf 0 U)<|Zht 2 U (yd 0 U U U)<|Zht 4 U (yd 1 U U U)<|ZH1 0<|Zok (Hr ..) [] U U U<|fun r=>Zqh 6 U<|ZH1 3<|Zov U (ylk 0 U U U Tryz.underlying298 Tryz.underlying41 EQ) ?_;refine ZH1 5<|Dg hc [2,2,2,2] U U U U U<|fun A=>fun cap=>Dl<|Zp1 ?_;refine Zfx [7,7,1,1,1,1] (B0) U ?_;refine Zpe (hS _ _) [1,0] 2 U U
 ·have h:ak=4:=h;subst h;have hc:=fW ba bc bk k pick w ⟨4,aa,aw,av,aop,aq,ar⟩ c d ao hp;rw[show DA c d w pick ⟨4,aa,aw,av,aop,aq,ar⟩=scR c d w pick ⟨4,aa,aw,av,aop,aq,ar⟩ from rfl];generalize scR c d w pick ⟨4,aa,aw,av,aop,aq,ar⟩=R at hc⊢;obtain⟨c',d',r⟩:=R;cases r with
  | ok did=>
   have hc:=Hi hc;refine Zen Tryz.func181 U U U fun e X Φ hS=>Zoc 0 DY U<|?_;refine Zsr<|Ze (eal z53) fun b2=>Zw<|Znq ?_;refine Zhd [0,2,2,2,2] U U<|Zht 1 U (yf 0 U)<|Zht 2 U (yd 0 U U U)<|Zht 4 U (yd 1 U U U)<|ZH1 0<|Zok (Hr ..) [] U U U<|fun r=>Zqh 6 U<|ZH1 3<|Zov U (ylk 0 U U U Tryz.underlying298 Tryz.underlying41 EQ) ?_;refine ZH1 5<|Dg hc [2,2,2,2] U U U U U<|Zqh 6 U<|ZH1 6<|Zoe U (esw 5 (m:=20) U U U U U (Enc.len ..) (Enc.allL ..))<|Ay 6 U<|ZHn<|Zxr ?_;refine Zfx [6,6,0,0,0,0] (B0) U<|Zre (.wh 2 (m:=20) U U (Enc.len ..) .n) hS [0] 2 U U U U
  | error ms=>
   have hc:=Hh hc;refine Zen Tryz.func181 U U U fun e X Φ hS=>Zoc 0 DY U<|?_;refine Zsr<|Ze (eal z53) fun b2=>Zw<|Znq ?_;refine Zhd [0,2,2,2,2] U U<|Zht 1 U (yf 0 U)<|Zht 2 U (yd 0 U U U)<|Zht 4 U (yd 1 U U U)<|ZH1 0<|Zok (Hr ..) [] U U U<|fun r=>Zqh 6 U<|ZH1 3<|Zov U (ylk 0 U U U Tryz.underlying298 Tryz.underlying41 EQ) ?_;refine ZH1 5<|Dg hc [2,2,2,2] U U U U U<|fun A=>fun cap=>Dl<|Zp1 ?_;refine Zfx [7,7,1,1,1,1] (B0) U ?_;refine Zpe (hS _ _) [1,0] 2 U U
 ·have h:ak=5:=h;subst h;have hc:=fX ba bc bk k pick w ⟨5,aa,aw,av,aop,aq,ar⟩ c d ao hp;rw[show DA c d w pick ⟨5,aa,aw,av,aop,aq,ar⟩=La c d w pick ⟨5,aa,aw,av,aop,aq,ar⟩ from rfl];generalize La c d w pick ⟨5,aa,aw,av,aop,aq,ar⟩=R at hc⊢;obtain⟨c',d',r⟩:=R;cases r with
  | ok did=>
   have hc:=Hi hc;refine Zen Tryz.func181 U U U fun e X Φ hS=>Zoc 0 DY U<|?_;refine Zsr<|Ze (eal z53) fun b2=>Zw<|Znq ?_;refine Zhd [0,2,2,2,2] U U<|Zht 1 U (yf 0 U)<|Zht 2 U (yd 0 U U U)<|Zht 4 U (yd 1 U U U)<|ZH1 0<|Zok (Hr ..) [] U U U<|fun r=>Zqh 6 U<|ZH1 3<|Zov U (ylk 0 U U U Tryz.underlying298 Tryz.underlying41 EQ) ?_;refine ZH1 5<|Dg hc [2,2,2,2] U U U U U<|Zqh 6 U<|ZH1 6<|Zoe U (esw 5 (m:=20) U U U U U (Enc.len ..) (Enc.allL ..))<|Ay 6 U<|ZHn<|Zxr ?_;refine Zfx [6,6,0,0,0,0] (B0) U<|Zre (.wh 2 (m:=20) U U (Enc.len ..) .n) hS [0] 2 U U U U
  | error ms=>
   have hc:=Hh hc;refine Zen Tryz.func181 U U U fun e X Φ hS=>Zoc 0 DY U<|?_;refine Zsr<|Ze (eal z53) fun b2=>Zw<|Znq ?_;refine Zhd [0,2,2,2,2] U U<|Zht 1 U (yf 0 U)<|Zht 2 U (yd 0 U U U)<|Zht 4 U (yd 1 U U U)<|ZH1 0<|Zok (Hr ..) [] U U U<|fun r=>Zqh 6 U<|ZH1 3<|Zov U (ylk 0 U U U Tryz.underlying298 Tryz.underlying41 EQ) ?_;refine ZH1 5<|Dg hc [2,2,2,2] U U U U U<|fun A=>fun cap=>Dl<|Zp1 ?_;refine Zfx [7,7,1,1,1,1] (B0) U ?_;refine Zpe (hS _ _) [1,0] 2 U U
 ·have h:ak=6:=h;subst h;have hc:=fU ba bc bk k pick w ⟨6,aa,aw,av,aop,aq,ar⟩ c d;rw[show DA c d w pick ⟨6,aa,aw,av,aop,aq,ar⟩=Fi c d w from rfl];generalize Fi c d w=R at hc⊢;obtain⟨c',d',r⟩:=R;cases r with
  | ok did=>
   have hc:=Hi hc;refine Zen Tryz.func181 U U U fun e X Φ hS=>Zoc 0 DY U<|?_;refine Zsr<|Ze (eal z53) fun b2=>Zw<|Znq ?_;refine Zhd [0,2,2,2,2] U U<|Zht 1 U (yf 0 U)<|Zht 2 U (yd 0 U U U)<|Zht 4 U (yd 1 U U U)<|ZH1 0<|Zok (Hr ..) [] U U U<|fun r=>Zqh 6 U<|ZH1 3<|Zov U (ylk 0 U U U Tryz.underlying298 Tryz.underlying41 EQ) ?_;refine ZH1 5<|Dg hc [2,2,2,2] U U U U U<|Zqh 6 U<|ZH1 6<|Zoe U (esw 5 (m:=20) U U U U U (Enc.len ..) (Enc.allL ..))<|Ay 6 U<|ZHn<|Zxr ?_;refine Zfx [6,6,0,0,0,0] (B0) U<|Zre (.wh 2 (m:=20) U U (Enc.len ..) .n) hS [0] 2 U U U U
  | error ms=>
   have hc:=Hh hc;refine Zen Tryz.func181 U U U fun e X Φ hS=>Zoc 0 DY U<|?_;refine Zsr<|Ze (eal z53) fun b2=>Zw<|Znq ?_;refine Zhd [0,2,2,2,2] U U<|Zht 1 U (yf 0 U)<|Zht 2 U (yd 0 U U U)<|Zht 4 U (yd 1 U U U)<|ZH1 0<|Zok (Hr ..) [] U U U<|fun r=>Zqh 6 U<|ZH1 3<|Zov U (ylk 0 U U U Tryz.underlying298 Tryz.underlying41 EQ) ?_;refine ZH1 5<|Dg hc [2,2,2,2] U U U U U<|fun A=>fun cap=>Dl<|Zp1 ?_;refine Zfx [7,7,1,1,1,1] (B0) U ?_;refine Zpe (hS _ _) [1,0] 2 U U
def drP (b0 b1 b2 ba bc bk k:Nat) (pick:Int) (c:Cor) (d:CD):HP:=Sep [.blk b0 74 [pt bc],.blk b1 80 [pt bk],.blk b2 292 [pt ba],.blk ba 294 (BO bc bk pick 0 Hj),.hp (Br k bc c),.hp (AK bk d)]
theorem Wq {b0 b1 b2 ba bc bk k:Nat} {pick:Int} {c:Cor} {d:CD}:Op_ (drP b0 b1 b2 ba bc bk k pick c d) fun K=>K [.blk b0 74 [pt bc],.blk b1 80 [pt bk],.blk b2 292 [pt ba],.blk ba 294 (BO bc bk pick 0 Hj),.hp (Br k bc c),.hp (AK bk d)] := .mk fun G k h hh=>⟨_,k,hh⟩
theorem IB {b0 b1 b2 ba bc bk k:Nat} {pick:Int} {c:Cor} {d:CD}:∀h,Sep [.blk b0 74 [pt bc],.blk b1 80 [pt bk],.blk b2 292 [pt ba],.blk ba 294 (BO bc bk pick 0 Hj),.hp (Br k bc c),.hp (AK bk d)] h→drP b0 b1 b2 ba bc bk k pick c d h:=fun _ hs=>hs
def Av (c:Cor) (d:CD) (pick:Int):Hg:=
 if hdB c.B=false then Bi c d []
 else if(AQ d (hdS c.B).addr (hdS c.B).width (hdS c.B).value).2≠0 then
  Bi c (Hn (AQ d (hdS c.B).addr (hdS c.B).width (hdS c.B).value).1 ⟨0,(hdS c.B).addr,0,0,0,false,false⟩ true pick).1 (Hn (AQ d (hdS c.B).addr (hdS c.B).width (hdS c.B).value).1 ⟨0,(hdS c.B).addr,0,0,0,false,false⟩ true pick).2.1
 else((c.setB c.B.tail).setF (c.first+1),(AQ d (hdS c.B).addr (hdS c.B).width (hdS c.B).value).1,.ok ⟨2,c.h.id,Oa,hdS c.B,c.first⟩)
theorem jB {l:List Sto} (h:∀s∈l,s.In):U32 (hdS l).addr:=by
 cases l with
 | nil=>exact⟨by decide,by decide⟩
 | cons s r=>exact(h s (.head _)).ad
theorem fI (b0 b1 b2 ba bc bk k:Nat) (pick:Int) (c:Cor) (d:CD) (hp : -9223372036854775808≤pick∧pick≤9223372036854775807) (hk:k≤1000000):Sp Tryz.prog 184 [pt b0,pt b1,pt b2] [.hp (drP b0 b1 b2 ba bc bk k pick c d)] (ClS (Av c d pick).2.2 (drP b0 b1 b2 ba bc bk (k+1) pick (Av c d pick).1 (Av c d pick).2.1)):=by
 refine Zen Tryz.func184 U U U fun e X Φ hS=>Zoc 0 Wq U<|Zoc 4 CO U<|fun ok A cap bb pr hpr=>Zoc 2 I6 U<|fun h4 hal=>?_;have hu:=jB hal;have hf0:=ok.f0;have hf1:=ok.f1;refine Zsr<|Ze (eal z53) fun b3=>Zw<|Zns<|Za 3 [5,37] U U<|Zv (yd 2 U U (Bj 2 U U))<|Zk (W0 ..) [1] U U ?_;refine Zq<|Zb 3 U<|Ze (eal z51) fun b4=>Zw<|Ze (esw 0 (m:=3) U U U U U (Enc.len ..) (Enc.allL ..))<|Zw0<|Zy U<|Zns ?_;refine Zm U<|Zk (UN ..) [] U U<|⟨?_,?_⟩
 refine fun a=>Zq<|Znl<|Znx<|Zsq<|Zsr<|Zv (yd 7 rfl rfl rfl)<|Zv (yf 0 rfl)<|Zv (yd 0 rfl rfl rfl)<|Zv (yf 1 rfl) ?_;refine Za 3 [0,2,0] U U ?_;rotate_left;refine fun a=>Zqp<|Zp1 ?_;rotate_left
 ·refine Zk (W4 bk d (hdS c.B).addr (hdS c.B).width (hdS c.B).value hu) [10] U U<|Zq<|Zv (yne U U)<|Zn<|Zif U (fun h24=>?_) (fun h24=>?_);refine Zrg<|Za 3 [9,0,1] U U<|Zv (HV U U (by decide) U) ?_;rotate_left;refine Zks<|Za 3 [7,37] U U<|Zv (yd 4 U U (Bj 2 U U))<|Zk (fJ ..) [2] U U<|Zq<|Znl ?_;refine Zxs<|Za 3 [7,38] U U<|Zv (yd 4 U U (Bj 3 U U))<|Zv (Ac U U (Ar U (by omega)))<|Za 2 [38] U U<|Ze (es 4 U U U (E5 3 U U) U)<|Zw0 ?_;refine Znq<|Zhe 13 U<|Zht 0 U (yd 7 U U U)<|Zht 1 U (yn U)<|Zht 2 U (yf 0 U)<|Zht 3 U (yf 0 U)<|Zht 4 U (yf 0 U)<|Zht 5 U (yd 4 U U U) ?_
  refine Zht 6 U (ydw 2 (m:=3) U U (Enc.len ..))<|Zht 7 U (yd 7 U U U)<|Zht 8 U (yn U)<|Zht 9 U (yf 38 U)<|Zht 10 U (yd 4 U U (Bj 3 U U))<|Zht 11 U (Dh U U (Ar U (by omega)))<|Zht 12 U (yb l53 U)<|ZHn<|Ztl U<|Zte (esw 3 (m:=20) U U U U U U U)<|Ztw ?_;refine Ztn<|Zxr ?_;rotate_left
  ·rw[(Cf hu).1];refine Zk (UO ba bc bk pick 0 ((hdS c.B).addr/16) true Hj (AQ d (hdS c.B).addr (hdS c.B).width (hdS c.B).value).1 (Cf hu).2 hp) [10,0] U U<|fun A_1=>fun cap_1=>Zqp<|Zp1 ?_;have hq:Hn (AQ d (hdS c.B).addr (hdS c.B).width (hdS c.B).value).1 ⟨0,(hdS c.B).addr,0,0,0,false,false⟩ true pick=askF (AQ d (hdS c.B).addr (hdS c.B).width (hdS c.B).value).1 ((hdS c.B).addr/16) (Cf hu).2 true pick:=dif_pos hu
   rw[show Av c d pick=Bi c (Hn (AQ d (hdS c.B).addr (hdS c.B).width (hdS c.B).value).1 ⟨0,(hdS c.B).addr,0,0,0,false,false⟩ true pick).1 (Hn (AQ d (hdS c.B).addr (hdS c.B).width (hdS c.B).value).1 ⟨0,(hdS c.B).addr,0,0,0,false,false⟩ true pick).2.1 from(if_neg (by rw[a];decide)).trans (if_pos h24),hq] at hS;dsimp only[ClS,Bi] at hS;refine Zfx [6,6,4,5] (Az (k:=k+1) (c:=c) (ok.mono (Nat.le_succ k))) U ?_;refine Zfx [6,6,6,2,0,1] (IB (c:=c)) U ?_;refine Zpe (hS _ _) [1,0] 2 U U
  ·have ok':((c.setB c.B.tail).setF (c.first+1)).Ok (k+1):=⟨ok.h,ok.cu,ok.cl,ok.s0,ok.s1,by show 0≤c.first+1;omega,by show c.first+1≤((k+1:Nat):Int);omega,ok.res⟩
   rw[show c.first+1-1=c.first by omega];rw[show Av c d pick=((c.setB c.B.tail).setF (c.first+1),(AQ d (hdS c.B).addr (hdS c.B).width (hdS c.B).value).1,.ok ⟨2,c.h.id,Oa,hdS c.B,c.first⟩) from(if_neg (by rw[a];decide)).trans (if_neg h24)] at hS;dsimp only[ClS] at hS;refine Zfx [4,4,0,3] (Az (k:=k+1) (c:=(c.setB c.B.tail).setF (c.first+1)) ok') U ?_;refine Zfx [4,4,4,4,0,0] (IB (c:=(c.setB c.B.tail).setF (c.first+1))) U<|Zre (.wh 2 (m:=20) U U U .n) hS [0] 2 U U U U
 ·rw[show Av c d pick=Bi c d [] from if_pos a] at hS;dsimp only[ClS,Bi] at hS;refine Zfx [3,3,1,2] (Az (k:=k+1) (c:=c) (ok.mono (Nat.le_succ k))) U ?_;refine Zfx [3,3,3,3,0,2] (IB (c:=c)) U ?_;refine Zix (fun _ hs=>Ag (E:=Al) hs) ?_;refine Zpe (hS none 0) [0,0] 2 U U
theorem Zf (bc bk k:Nat) (pick:Int) (c:Cor) (d:CD) (hp : -9223372036854775808≤pick∧pick≤9223372036854775807) (hk:k≤1000000):Sp Tryz.prog 140 [pt bc,pt bk,.int .i64 pick] [.hp (Br k bc c),.hp (AK bk d)] fun K=>∀A cap,K (.returned (.tuple #[.agg (Cg.arr (MC c.h.id (Av c d pick).2.2)),.slice A (DS (Av c d pick).2.2).length cap,.int .i64 0])) [.hp (own Al A cap (DS (Av c d pick).2.2)),.hp (Br (k+1) bc (Av c d pick).1),.hp (AK bk (Av c d pick).2.1)]:=by
 refine Zen Tryz.func140 U U U fun e X Φ hS=>?_;refine Zsr<|Ze (ebx U) fun b3=>Zw<|Ze (ebx U) fun b4=>Zw<|Ze (eal z53) fun b6=>Zw<|Zb 2 U<|Aj ?_;refine Zv (yd 2 U U U)<|Zk (c53 ..) [3] U U<|Zq<|Za 2 [2] U U<|Zg U U<|Zk (c42 ..) [4] U U<|fun b'=>Zq ?_;refine Zg U U<|Zv (D6 U U U)<|Zv (ypf U U)<|Zn<|Zcf U<|Zks<|Zv (yd 5 U U U) ?_;refine Za 2 [4] U U<|Zv (yb XH U)<|Ze (ebx U) fun b24=>Zw<|Ze (eal YQ) fun b9=>Zw<|Ze (es 0 U U U U U)<|Zw0<|Zns<|Zv (yd 7 U U U) ?_;refine Za 4 [0,0,0] U U ?_;refine Zol 4 CO U<|fun ok A cap bb pr hpr=>Zv (yd 0 U U U)<|Zv (yfn U U) ?_
 refine Zfl [0,0,0,0] (Az (c:=c) ok) U ?_;refine Zfl [7,6,1,1,0,1] (IB (b0:=b3) (b1:=b4) (b2:=b9) (ba:=b24) (bc:=bc) (bk:=bk) (k:=k) (pick:=pick) (c:=c) (d:=d)) U ?_;refine Zk (WZ 184 [pt b3,pt b4,pt b9] (drP b3 b4 b9 b24 bc bk k pick c d) (drP b3 b4 b9 b24 bc bk (k+1) pick (Av c d pick).1 (Av c d pick).2.1) (Av c d pick).2.2 c.h.id (fI b3 b4 b9 b24 bc bk k pick c d hp hk) (by kernel_rfl)) [0] U U<|fun A_1=>fun cap_1=>Zq<|Zb 3 U<|Ze (eal z53) fun b10=>Zw<|Ze (esw 0 (m:=20) U U U U U (Enc.len ..) (Enc.allL ..))<|Zw0<|Zy U ?_
 refine Zns<|Zv (ydw 0 (m:=20) U U (Enc.len ..))<|Zm U<|Ze (esw 4 (m:=20) U U U U U (Enc.len ..) (Enc.allL ..))<|Zw0<|Zb 2 U<|Zn ?_;refine Zrt ?_;refine Zox 2 Wq U<|Zre (.wh 9 (m:=20) U U (Enc.len ..) (.t U (.t U .n))) (hS _ _) [7,4,4] 7 U U U U
def goF (c:Cor) (d:CD) (pick:Int):Cor × CD × Did × List Msg:=
 if c.h.cause≠0 then(c,d,U7 c.h.id,[])
 else if(BC c.code c.h.pc).2=false then(c.setH (c.h.setCause 4),d,⟨1,c.h.id,⟨c.h.pc,0,Hj,Gx,0,0,4⟩,BI,-1⟩,[])
 else((DA c d (BC c.code c.h.pc).1 pick (AS c.h (BC c.code c.h.pc).1 c.size).1).1,(DA c d (BC c.code c.h.pc).1 pick (AS c.h (BC c.code c.h.pc).1 c.size).1).2.1,
  MC c.h.id (DA c d (BC c.code c.h.pc).1 pick (AS c.h (BC c.code c.h.pc).1 c.size).1).2.2,DS (DA c d (BC c.code c.h.pc).1 pick (AS c.h (BC c.code c.h.pc).1 c.size).1).2.2)
theorem Zd (bc bk k:Nat) (pick:Int) (c:Cor) (d:CD) (hp : -9223372036854775808≤pick∧pick≤9223372036854775807) (hk:k≤1000000):Sp Tryz.prog 138 [pt bc,pt bk,.int .i64 pick] [.hp (Br k bc c),.hp (AK bk d),spC] fun K=>∀A cap,K (.returned (.tuple #[.agg (Cg.arr (goF c d pick).2.2.1),.slice A (goF c d pick).2.2.2.length cap,.int .i64 0])) [.hp (own Al A cap (goF c d pick).2.2.2),.hp (Br k bc (goF c d pick).1),.hp (AK bk (goF c d pick).2.1),spC]:=by
 refine Zen Tryz.func138 U U U fun e X Φ hS=>?_;refine Zsr<|Ze (eal z53) fun b6=>Zw<|Zb 2 U<|Aj<|Zm U<|Zk (c53 ..) [1] U U ?_;refine Zq<|Zb 2 U<|Zg U U<|Zk (c42 ..) [2] U U<|fun b'=>Zq<|Zg U U<|Zv (D6 U U U) ?_;refine Zv (ypf U U)<|Zn<|Zcf U<|Zkn<|Zsq<|Zsr<|Zb 2 U ?_;refine Za 3 [0,0,34] U U ?_;refine Zol 2 CO U<|fun ok A cap bb pr hpr=>Zv (yd 0 U U (XX _ _))<|Zv (yne U U)<|Zn<|Zif U (fun h31=>?_) (fun h31=>?_);refine Zsr<|Za 6 [0,0,0,0] U U<|Zv (yb l53 U)<|Ze (esw 6 (m:=20) U U U U U U U)<|Zw0<|Zy U ?_;refine Zy U<|Znr<|Zr1 ?_;rotate_left;refine Zkn<|Zsq ?_;rotate_left
 ·rw[show goF c d pick=(c,d,U7 c.h.id,[]) from if_pos h31] at hS;refine Zfx [0,0,0,0] (Az (c:=c) ok) U ?_;refine Zix (fun _ hs=>Ag (E:=Al) hs)<|Zre (.wh 4 (m:=20) U U U (.t U (.t U .n))) (hS _ _) [0,0,1,2] 2 U U U U
 ·have hpc:=ok.h.pc;have hcl:=ok.cl;refine Zhd [1] U U<|Zht 0 U (ym U)<|Zht 1 U (yn U)<|Zht 2 U (yf 0 U)<|Zht 3 U (yf 35 U)<|Zht 4 U (yd 0 U U (Bj 0 U U))<|Zht 5 U (ym U)<|Zht 6 U (yn U)<|Zht 7 U (yf 0 U)<|Zht 8 U (yf 0 U) ?_;refine Zht 9 U (yf 1 U)<|Zht 10 U (yd 0 U U U) ?_;refine ZH1 11<|Zok (eO _ A cap c.code c.h.pc own.rd hpc (by omega)) [0] U U U<|Zqh 1 U<|Zht 12 U (ym U)<|Zht 13 U (yx U U)<|Zht 14 U (yx U U)<|Zht 15 U (ya U)<|Zht 16 U (ya U)<|ZHn<|Zxq ?_;refine Zsr<|Zb 2 U<|Zn<|Zib U (fun h55=>?_) (fun h55=>?_)
  refine Zsr<|Za 5 [0,0,34] U U<|Ze (es 1 U U U (X8 _ _ _) U)<|Zw0<|Znq ?_;refine Zhe 14 U<|Zht 0 U (ym U)<|Zht 1 U (yn U)<|Zht 2 U (yf 0 U)<|Zht 3 U (yf 0 U)<|Zht 4 U (yf 0 U)<|Zht 5 U (yd 1 U U U)<|Zht 6 U (ym U)<|Zht 7 U (yn U)<|Zht 8 U (yf 0 U) ?_;refine Zht 9 U (yf 0 U)<|Zht 10 U (yf 1 U)<|Zht 11 U (yd 1 U U U)<|Zht 12 U (yb l49 U)<|Zht 13 U (yb l53 U)<|ZHn<|Ztl U<|Zte (esw 6 (m:=20) U U U U U U U)<|Ztw<|Ztv (ya U)<|Ztv (ya U) ?_;refine Ztn<|Zxr<|Zr1 ?_;rotate_left;refine Zkn<|Zsq ?_;rotate_left
  ·have hf:(BC c.code c.h.pc).2=false:=by simpa using h55
   have ok':(c.setH (c.h.setCause 4)).Ok k:=⟨ok.h.setCause (by decide) (by decide),ok.cu,ok.cl,ok.s0,ok.s1,ok.f0,ok.f1,ok.res⟩
   rw[show goF c d pick=(c.setH (c.h.setCause 4),d,⟨1,c.h.id,⟨c.h.pc,0,Hj,Gx,0,0,4⟩,BI,-1⟩,[]) from(if_neg h31).trans (if_pos hf)] at hS;dsimp only at hS;refine Zfx [1,0,0,0] (Az (c:=c.setH (c.h.setCause 4)) ok') U ?_;refine Zix (fun _ hs=>Ag (E:=Al) hs)<|Zre (.wh 4 (m:=20) U U U (.t U (.t U .n))) (hS _ _) [0,0,1,2] 2 U U U U
  ·have hf:¬(BC c.code c.h.pc).2=false:=by intro h;rw[h] at h55;cases h55
   have okh:=ok.h;rw[show goF c d pick=_ from(if_neg h31).trans (if_neg hf)] at hS;generalize(BC c.code c.h.pc).1=w at hS⊢;have ao:=K9 c.h w c.size okh;refine Zhd [7] U U<|Zht 0 U (ym U)<|Zht 1 U (yn U)<|Zht 2 U (yf 0 U)<|Zht 3 U (yf 0 U)<|Zht 4 U (yda 1 (m:=35) U U (Hu _ _) (Enc.len ..))<|Zht 5 U (ym U)<|Zht 6 U (ym U)<|Zht 7 U (yn U)<|Zht 8 U (yf 0 U) ?_;refine Zht 9 U (yf 36 U)<|Zht 10 U (yd 1 U U (Bj 1 U U))<|ZH2 11 16 (Zok (WY ..) [0] U U U ?_) (Zoe U (eal z44) fun b11=>Zwh 2 U ?_)
   refine Zqh 1 U<|Zht 12 U (ym U)<|Zht 13 U (yx U U)<|Zht 14 U (yx U U)<|Zht 15 U (yx U U)<|ZH1 16<|Zoe U (eal z44) fun b11=>Zwh 2 U<|ZH1 17<|Zoe U (esw 0 (m:=7) U U U U U (Enc.len ..) (Enc.allL ..))<|Ay 2 U<|Zht 18 U (ya U)<|Zht 19 U (ya U)<|ZHn ?_;refine Zxs<|Zb 4 U<|Zv (ydw 0 (m:=7) U U (Enc.len ..))<|Zv (yb XH U)<|Ze (ebx U) fun b97=>Zw<|Ze (eal YQ) fun b14=>Zw ?_;refine Ze (es 0 U U U U U)<|Zw0<|Zns<|Za 6 [0,0,0,5] U U ?_;refine Zv (yfn U U) ?_;rotate_left
   refine ZH1 11<|Zok (WY ..) [1] U U U<|Zqh 2 U<|Zht 12 U (ym U)<|Zht 13 U (yx U U)<|Zht 14 U (yx U U)<|Zht 15 U (yx U U)<|ZH1 17<|Zoe U (esw 1 (m:=7) U U U U U (Enc.len ..) (Enc.allL ..))<|Ay 2 U<|Zht 18 U (ya U)<|Zht 19 U (ya U)<|ZHn ?_;refine Zxs<|Zb 4 U<|Zv (ydw 1 (m:=7) U U (Enc.len ..))<|Zv (yb XH U)<|Ze (ebx U) fun b97=>Zw<|Ze (eal YQ) fun b14=>Zw ?_;refine Ze (es 0 U U U U U)<|Zw0<|Zns<|Za 6 [0,0,0,5] U U ?_;refine Zv (yfn U U) ?_;rotate_left
   ·dsimp only at hS;refine Zfl [5,4,4,4] (Az (c:=c) ok) U ?_;refine Zfl [3,1,1,0,2,0] (B0 (b1:=b11) (b2:=b14) (ba:=b97) (bc:=bc) (bk:=bk) (k:=k) (pick:=pick) (w:=w) (a:=(AS c.h w c.size).1) (c:=c) (d:=d)) U ?_
    refine Zk (WZ 181 [pt b11,pt b14] (goP b11 b14 b97 bc bk k pick w (AS c.h w c.size).1 c d) (goP b11 b14 b97 bc bk k pick w (AS c.h w c.size).1 (DA c d w pick (AS c.h w c.size).1).1 (DA c d w pick (AS c.h w c.size).1).2.1) (DA c d w pick (AS c.h w c.size).1).2.2 c.h.id (Zr b11 b14 b97 bc bk k pick w (AS c.h w c.size).1 c d ao hp hk) (by kernel_rfl)) [0] U U<|fun A_1=>fun cap_1=>Zq<|Zb 3 U<|Ze (eal z53) fun b15=>Zw<|Ze (esw 0 (m:=20) U U U U U (Enc.len ..) (Enc.allL ..))<|Zw0<|Zy U ?_
    refine Zns<|Zv (ydw 0 (m:=20) U U (Enc.len ..))<|Zm U<|Ze (esw 4 (m:=20) U U U U U (Enc.len ..) (Enc.allL ..))<|Zw0<|Zb 2 U<|Zn ?_;refine Zrt ?_;refine Zox 2 DY U<|Zre (.wh 9 (m:=20) U U (Enc.len ..) (.t U (.t U .n))) (hS _ _) [7,3,3,3] 6 U U U U
   ·dsimp only at hS;refine Zfl [5,4,4,4] (Az (c:=c) ok) U ?_;refine Zfl [4,1,1,0,2,0] (B0 (b1:=b11) (b2:=b14) (ba:=b97) (bc:=bc) (bk:=bk) (k:=k) (pick:=pick) (w:=w) (a:=(AS c.h w c.size).1) (c:=c) (d:=d)) U ?_
    refine Zk (WZ 181 [pt b11,pt b14] (goP b11 b14 b97 bc bk k pick w (AS c.h w c.size).1 c d) (goP b11 b14 b97 bc bk k pick w (AS c.h w c.size).1 (DA c d w pick (AS c.h w c.size).1).1 (DA c d w pick (AS c.h w c.size).1).2.1) (DA c d w pick (AS c.h w c.size).1).2.2 c.h.id (Zr b11 b14 b97 bc bk k pick w (AS c.h w c.size).1 c d ao hp hk) (by kernel_rfl)) [0] U U<|fun A_1=>fun cap_1=>Zq<|Zb 3 U<|Ze (eal z53) fun b15=>Zw<|Ze (esw 0 (m:=20) U U U U U (Enc.len ..) (Enc.allL ..))<|Zw0<|Zy U ?_
    refine Zns<|Zv (ydw 0 (m:=20) U U (Enc.len ..))<|Zm U<|Ze (esw 4 (m:=20) U U U U U (Enc.len ..) (Enc.allL ..))<|Zw0<|Zb 2 U<|Zn ?_;refine Zrt ?_;refine Zox 2 DY U<|Zre (.wh 9 (m:=20) U U (Enc.len ..) (.t U (.t U .n))) (hS _ _) [7,3,3,3] 6 U U U U
def B6 {β:Type} (F:β→HP):List β→HP
 | []=>fun _=>True
 | x::l=>Sep [.hp (F x),.hp (B6 F l)]
theorem OP {L:List Ck} {p:HP} {h:Hl} (hs:Sep [.hp p] h) (f:∀h,p h→Sep L h):Sep L h:=by have:=(hs.hd (q := .hp (Sep L)) f).flat;rwa[List.append_nil] at this
theorem TN {L:List Ck} {p:HP} {h:Hl} (hs:Sep L h) (f:∀h,Sep L h→p h):Sep [.hp p] h:=by
 have h2:Sep (L++[]) h:=by rwa[List.append_nil]
 exact h2.unflat.hd (q := .hp p) f
section
variable {β:Type} {F G:β→HP}
theorem GU:∀(a:List β) {x:β} {c:List β} {h:Hl},B6 F (a++x::c) h→Sep [.hp (F x),.hp (B6 F (a++c))] h
 | [],_,_,_,hs=>hs
 | y::a,x,c,h,hs=>by have h1:Sep [.hp (F y),.hp (F x),.hp (B6 F (a++c))] h:=Sep.mapTl hs fun _ hh=>OP hh fun _ hq=>GU a hq;exact h1.swap.mapTl fun _ hh=>TN hh fun _ hq=>hq
theorem GT:∀(a:List β) {x:β} {c:List β} {h:Hl},Sep [.hp (F x),.hp (B6 F (a++c))] h→B6 F (a++x::c) h
 | [],_,_,_,hs=>hs
 | y::a,x,c,h,hs=>by have h1:Sep [.hp (F x),.hp (F y),.hp (B6 F (a++c))] h:=Sep.mapTl hs fun _ hh=>OP hh fun _ hq=>hq;exact h1.swap.mapTl fun _ hh=>TN hh fun _ hq=>GT a hq
theorem GS:∀{l:List β} {h:Hl},B6 F l h→(∀x∈l,∀h,F x h→G x h)→B6 G l h
 | [],_,_,_=>trivial
 | x::l,h,hs,f=>by have h1:Sep [.hp (G x),.hp (B6 F l)] h:=Sep.hd hs (q := .hp (G x)) (f x (.head _));exact h1.mapTl fun _ hh=>hh.hd (q := .hp (B6 G l)) fun _ hq=>GS hq fun y hy=>f y (.tail _ hy)
theorem PO:∀{l:List β} {h:Hl},Sep [.hp (B6 F l)] h→B6 F l h
 | [],_,_=>trivial
 | x::l,h,hs=>OP hs fun _ hq=>hq
theorem QN {a:List β} {x:β} {c:List β} {h:Hl} (hs:B6 F (a++x::c) h):Sep [.hp (B6 F (a++c))] h:=(GU a hs).tl
end
section
variable {β:Type} {F:β→HP}
theorem PN {l:List β} {i:Nat} {x:β} {h:Hl} (e:l[i]? = some x) (hs:B6 F l h):Sep [.hp (F x),.hp (B6 F (l.eraseIdx i))] h:=by obtain⟨hi,rfl⟩:=List.getElem?_eq_some_iff.1 e;rw[List.eraseIdx_eq_take_drop_succ];refine GU (l.take i) ?_;rwa[List.getElem_cons_drop hi,List.take_append_drop]
theorem Nc {l:List β} {i:Nat} {y:β} {h:Hl} (hi:i<l.length) (hs:Sep [.hp (F y),.hp (B6 F (l.eraseIdx i))] h):B6 F (l.set i y) h:=by rw[List.set_eq_take_append_cons_drop,if_pos hi];refine GT (l.take i) ?_;rwa[List.eraseIdx_eq_take_drop_succ] at hs
end
def mp (es:List (Nat × Nat)):List (Int × Value):=es.map fun x=>((x.1:Int),pt x.2)
abbrev CR (es:List (Nat × Nat)):List Nat:=es.map (·.1)
theorem Na {n:Nat}:∀{es:List (Nat × Nat)},n ∉ CR es→lk (n:Int) (mp es)=none
 | [],_=>rfl
 | (m,b)::es,h=>by
  have h1:n≠m:=fun e=>h (by rw[e];exact .head _);have h2:n ∉ CR es:=fun e=>h (.tail _ e);show(match lk (n:Int) (mp es) with|some u=>some u|none=>bif (n:Int) == (m:Int) then _ else none)=none;rw[Na h2];have:((n:Int) == (m:Int))=false:=by simpa using(by omega:(n:Int)≠m)
  simp only[this,cond_false]
theorem Lz {n b:Nat} {c:List (Nat × Nat)} (hc:n ∉ CR c):∀{a:List (Nat × Nat)},n ∉ CR a→lk (n:Int) (mp (a++(n,b)::c))=some (pt b)
 | [],_=>by show(match lk (n:Int) (mp c) with|some u=>some u|none=>bif (n:Int) == (n:Int) then _ else none)=_;rw[Na hc];simp
 | (m,b')::a,h=>by have h2:n ∉ CR a:=fun e=>h (.tail _ e);show(match lk (n:Int) (mp (a++(n,b)::c)) with|some u=>some u|none=>bif (n:Int) == (m:Int) then _ else none)=_;rw[Lz hc h2]
theorem Qh {n b b':Nat} {c:List (Nat × Nat)} (hc:n ∉ CR c):∀{a:List (Nat × Nat)},n ∉ CR a→NG (n:Int) (pt b') (mp (a++(n,b)::c))=mp (a++(n,b')::c)
 | [],_=>by show(match lk (n:Int) (mp c) with|some _=>_|none=>bif (n:Int) == (n:Int) then _ else _)=_;rw[Na hc];simp;rfl
 | (m,b'')::a,h=>by have h2:n ∉ CR a:=fun e=>h (.tail _ e);show(match lk (n:Int) (mp (a++(n,b)::c)) with|some _=>_::NG (n:Int) _ (mp (a++(n,b)::c))|none=>_)=_;rw[Lz hc h2,Qh hc h2];rfl
theorem V5 {n b b':Nat} {a c:List (Nat × Nat)} (ha:n ∉ CR a) (hc:n ∉ CR c):ups (n:Int) (pt b') (mp (a++(n,b)::c))=mp (a++(n,b')::c):=by unfold ups;rw[Lz hc ha];exact Qh hc ha
theorem YC {n b':Nat} {es:List (Nat × Nat)} (h:n ∉ CR es):ups (n:Int) (pt b') (mp es)=mp ((n,b')::es):=by unfold ups;rw[Na h];rfl
theorem Gj {n:Nat}:∀{es:List (Nat × Nat)},(CR es).Nodup→n∈CR es→∃a b c,es=a++(n,b)::c∧n ∉ CR a∧n ∉ CR c
 | [],_,h=>by cases h
 | (m,b)::es,hn,h=>by
  have hn':=List.nodup_cons.1 hn;by_cases e:n=m
  ·subst e;exact⟨[],b,es,rfl,List.not_mem_nil,hn'.1⟩
  ·rcases List.mem_cons.1 h with h|h
   ·exact absurd h e
   ·obtain⟨a,b',c,rfl,h1,h2⟩:=Gj hn'.2 h;refine⟨(m,b)::a,b',c,rfl,fun h=>?_,h2⟩;rcases List.mem_cons.1 h with h|h
    ·exact e h
    ·exact h1 h
structure Sh where
 a:Bool
 b:Bool
 c:Bool
 d:Bool
 deriving DecidableEq
def Sh.get (s:Sh) (i:Int):Bool:=if i=0 then s.a else if i=1 then s.b else if i=2 then s.c else if i=3 then s.d else false
def Sh.set (s:Sh) (i:Int) (x:Bool):Sh:=if i=0 then⟨x,s.b,s.c,s.d⟩ else if i=1 then⟨s.a,x,s.c,s.d⟩ else if i=2 then⟨s.a,s.b,x,s.d⟩ else if i=3 then⟨s.a,s.b,s.c,x⟩ else s
def sh0:Sh:=⟨false,false,false,false⟩
structure Ent where
 o:Int
 sh:Sh
 busy:Bool
 asks:Int
 kind:Int
 waits:Int
 told:Bool
 q:List Msg
 deriving DecidableEq
def ent0:Ent:=⟨-1,sh0,false,0,0,0,false,[]⟩
def Ent.cs (d:Ent) (v:Value):List Value:=[.int .i64 d.o,.bool d.sh.a,.bool d.sh.b,.bool d.sh.c,.bool d.sh.d,.bool d.busy,.int .i64 d.asks,.int .i64 d.kind,.int .i64 d.waits,.bool d.told,v]
def Ent.setO (d:Ent) (o:Int):Ent:=⟨o,d.sh,d.busy,d.asks,d.kind,d.waits,d.told,d.q⟩
def Ent.setS (d:Ent) (s:Sh):Ent:=⟨d.o,s,d.busy,d.asks,d.kind,d.waits,d.told,d.q⟩
def Ent.setT (d:Ent) (t:Bool):Ent:=⟨d.o,d.sh,d.busy,d.asks,d.kind,d.waits,t,d.q⟩
def Ent.setW (d:Ent) (w:Int):Ent:=⟨d.o,d.sh,d.busy,d.asks,d.kind,w,d.told,d.q⟩
def Ent.setQ (d:Ent) (q:List Msg):Ent:=⟨d.o,d.sh,d.busy,d.asks,d.kind,d.waits,d.told,q⟩
def othK (sh:Sh) (r:Int):Nat→List Int
 | 0=>[]
 | k+1=>if(sh.get k && decide ((k:Int)≠r))=true then othK sh r k++[(k:Int)] else othK sh r k
def othersF (sh:Sh) (r:Int):List Int:=othK sh r 4
def Ab (d:Ent) (r:Int):Ent:=d.setO (if d.o=r then -1 else d.o)
def Cr (d:Ent) (r:Int):Ent:=⟨r,sh0,d.busy,d.asks,d.kind,d.waits,d.told,d.q⟩
def AU (d:Ent) (m:Msg) (waits:Int) (told:Bool):Ent:=⟨d.o,d.sh,true,m.src,m.kind,waits,told,d.q⟩
theorem G0 (sh:Sh) (r:Int):∀k,(othK sh r k).length≤k
 | 0=>Nat.le_refl 0
 | k+1=>by
  unfold othK;have:=G0 sh r k;split
  ·simp;omega
  ·omega
def Ah (bs:List Int) (n:Int):B16:=if h:(Di bs n.toNat).length=16∧∀a∈Di bs n.toNat,0≤a∧a<256 then⟨Di bs n.toNat,h⟩ else AE
def setLn (bs:List Int) (n:Int) (b:B16):List Int:=setF bs n.toNat b.1
structure Byt (bs:List Int) (n:Int):Prop where
 r:∀a∈bs,0≤a∧a<256
 l:bs.length≤1048576
 n0:0≤n
 n1:n.toNat<bs.length/16
theorem Byt.line {bs:List Int} {n:Int} (h:Byt bs n):(Ah bs n).1=Di bs n.toNat:=by unfold Ah;rw[dif_pos ⟨JA h.n1,fun a ha=>h.r a (List.mem_of_mem_take (List.mem_of_mem_drop ha))⟩]
theorem Byt.set {bs:List Int} {n:Int} (h:Byt bs n) (k:Int) (hk:k=n) (b:B16):Byt (setLn bs k b) n:=by
 subst hk;have h1:(setLn bs k b).length=bs.length:=LW h.n1 b.2.1;refine⟨fun a ha=>?_,by rw[h1];exact h.l,h.n0,by rw[h1];exact h.n1⟩;unfold setLn setF at ha;rcases List.mem_append.1 ha with ha|ha
 ·rcases List.mem_append.1 ha with ha|ha
  ·exact h.r a (List.mem_of_mem_take ha)
  ·exact b.2.2 a ha
 ·exact h.r a (List.mem_of_mem_drop ha)
def Bb (bw bh bi r:Nat) (n:Int) (d:Ent) (out:List Msg) (bs:List Int):HP:=fun h=>Byt bs n∧∃be A cap Aq cq,Sep [.blk bw 313 [.slice A out.length cap,pt be,pt bh,.int .u32 n],.blk be 165 (d.cs (.slice Aq d.q.length cq)),.hp (own Al A cap out),.hp (own Al Aq cq d.q),.blk bh 158 [pt bi,.map (some r)],.hp (Bx bi bs)] h
theorem AG {bw bh bi r:Nat} {n:Int} {d:Ent} {out:List Msg} {bs:List Int}:Op_ (Bb bw bh bi r n d out bs) fun K=>Byt bs n→∀be A cap Aq cq,K [.blk bw 313 [.slice A out.length cap,pt be,pt bh,.int .u32 n],.blk be 165 (d.cs (.slice Aq d.q.length cq)),.hp (own Al A cap out),.hp (own Al Aq cq d.q),.blk bh 158 [pt bi,.map (some r)],.hp (Bx bi bs)] := .mk fun G k h hh=>by obtain⟨ok,be,A,cap,Aq,cq,hs⟩:=hh;exact⟨_,k ok be A cap Aq cq,hs⟩
theorem Ae {bw bh bi r be cap cq:Nat} {n:Int} {d:Ent} {out:List Msg} {bs:List Int} {A Aq:Option Addr} (ok:Byt bs n):∀h,Sep [.blk bw 313 [.slice A out.length cap,pt be,pt bh,.int .u32 n],.blk be 165 (d.cs (.slice Aq d.q.length cq)),.hp (own Al A cap out),.hp (own Al Aq cq d.q),.blk bh 158 [pt bi,.map (some r)],.hp (Bx bi bs)] h→Bb bw bh bi r n d out bs h:=fun _ hs=>⟨ok,be,A,cap,Aq,cq,hs⟩
theorem H1 (fine:Bool) (why:Int) (h:fine=false):Sp Tryz.prog 227 [.bool fine,.int .i64 why] [] fun K=>K (.panicked (LD (.iface 308 (.agg #[.int .i64 why])))) []:=by subst h;refine Zen Tryz.func227 U U U fun e X Φ hS=>Zsr<|Zb 2 U<|Zn<|Zct U<|Zrg<|Zm U<|Zv (yb bD U) ?_;refine Zv (ymi Tryz.underlying308 U U)<|Zpn U ?_;refine Zpe hS [] 0 U U
theorem Z0 (bw bh bi r:Nat) (n k:Int) (d:Ent) (out:List Msg) (bs:List Int):Sp Tryz.prog 299 [pt bw,.int .i64 k] [.hp (Bb bw bh bi r n d out bs)] fun K=>K (.returned (.tuple #[])) [.hp (Bb bw bh bi r n (Ab d k) out bs)]:=by
 refine Zen Tryz.func299 U U U fun e X Φ hS=>Zoc 0 AG U<|fun ok be A cap Aq cq=>?_;refine Zsr<|Za 9 [1,0,0,1] U U ?_;refine Zn<|Zif U (fun h12=>?_) (fun h12=>?_);refine Zrg<|Za 6 [1,0,0] U U<|Ze (es 1 U U U U U)<|Zw0<|Znl<|Zee ?_;rotate_left;refine Zsk<|Zee ?_;rotate_left
 ·rw[show Ab d k=d.setO (-1) by unfold Ab;rw[if_pos h12]] at hS;refine Zfx [0,0,0,0,0,0] (Ae (d:=d.setO (-1)) ok) U<|Zre .n hS [0] 0 U U U U
 ·rw[show Ab d k=d by unfold Ab;rw[if_neg h12];rfl] at hS;refine Zfx [0,0,0,0,0,0] (Ae (d:=d) ok) U<|Zre .n hS [0] 0 U U U U
theorem Xa (bw bh bi r:Nat) (n k:Int) (d:Ent) (out:List Msg) (bs:List Int):Sp Tryz.prog 229 [pt bw,.int .i64 k] [.hp (Bb bw bh bi r n d out bs)] fun K=>K (.returned (.tuple #[])) [.hp (Bb bw bh bi r n (Cr d k) out bs)]:=by
 refine Zen Tryz.func229 U U U fun e X Φ hS=>Zoc 0 AG U<|fun ok be A cap Aq cq=>?_;refine Zhd [1] U U<|Zht 0 U (ym U)<|Zht 1 U (yn U)<|Zht 2 U (yf 1 U)<|Zht 3 U (yd 0 U U U)<|Zht 4 U (ym U)<|Zht 5 U (yn U)<|Zht 6 U (yf 1 U)<|Zht 7 U (yd 0 U U U)<|Zht 8 U (ym U) ?_;refine Zht 9 U (yb jL U)<|Zht 10 U (yn U)<|Zht 11 U (yf 0 U)<|ZH1 12<|Zoe U (es 0 U U U U U)<|Ay 1 U<|Zht 13 U (yn U)<|Zht 14 U (yf 1 U)<|ZH1 15<|Zoe U (esa 0 (m:=4) U U U U U (Nat.le_of_ble_eq_true U) U)<|Ay 1 U<|ZHn<|Zee ?_;refine Zfx [1,0,0,0,0,0] (Ae (d:=Cr d k) ok) U<|Zre .n hS [0] 0 U U U U
theorem RU (bw bh bi r:Nat) (n:Int) (m:Msg) (wt:Int) (td:Bool) (d:Ent) (out:List Msg) (bs:List Int):Sp Tryz.prog 300 [pt bw,.agg (Al.arr m),.int .i64 wt,.bool td] [.hp (Bb bw bh bi r n d out bs)] fun K=>K (.returned (.tuple #[])) [.hp (Bb bw bh bi r n (AU d m wt td) out bs)]:=by
 refine Zen Tryz.func300 U U U fun e X Φ hS=>Zoc 0 AG U<|fun ok be A cap Aq cq=>?_;refine Zsr<|Ze (A8 U) fun b5=>Zw<|Zn ?_;refine Zhd [2] U U<|Zht 0 U (ym U)<|Zht 1 U (yn U)<|Zht 2 U (yf 1 U)<|Zht 3 U (yd 1 U U U)<|Zht 4 U (ym U)<|Zht 5 U (yn U)<|Zht 6 U (yf 1 U)<|Zht 7 U (yd 1 U U U)<|Zht 8 U (ym U) ?_;refine Zht 9 U (yn U)<|Zht 10 U (yf 1 U)<|Zht 11 U (yd 1 U U U)<|Zht 12 U (ym U)<|Zht 13 U (yn U)<|Zht 14 U (yf 1 U)<|Zht 15 U (yd 1 U U U)<|Zht 16 U (ym U)<|Zht 17 U (yn U)<|Zht 18 U (yf 1 U) ?_
 refine Zht 19 U (yd 1 U U U)<|Zht 20 U (yf 1 U)<|Zht 21 U (yd 0 U U U)<|Zht 22 U (yf 0 U)<|Zht 23 U (yd 0 U U U)<|Zht 24 U (ym U)<|Zht 25 U (ym U)<|Zht 26 U (yn U)<|Zht 27 U (yf 5 U)<|ZH1 28<|Zoe U (es 0 U U U U U)<|Ay 1 U ?_;refine Zht 29 U (yn U)<|Zht 30 U (yf 6 U)<|ZH1 31<|Zoe U (es 0 U U U U U)<|Ay 1 U<|Zht 32 U (yn U)<|Zht 33 U (yf 7 U)<|ZH1 34<|Zoe U (es 0 U U U U U)<|Ay 1 U<|Zht 35 U (yn U)<|Zht 36 U (yf 8 U)<|ZH1 37<|Zoe U (es 0 U U U U U)<|Ay 1 U<|Zht 38 U (yn U) ?_;refine Zht 39 U (yf 9 U)<|ZH1 40<|Zoe U (es 0 U U U U U)<|Ay 1 U<|ZHn<|Zee ?_
 refine Zfx [2,0,1,1,1,1] (Ae (d:=AU d m wt td) ok) U<|Zre .n hS [0] 1 U U U U
abbrev Oj:Enc Tryz.prog Int:=C7 3 .i64
theorem Sk:BX Oj 399 8:=⟨Tryz.underlying399,by
 obtain⟨i0,hi,hz0,hz1,hz2⟩:=info_parts (show(Tryz.prog.info? 3).map (fun i=>(i.zero,i.size,i.bytes))=some (some (.int .i64 0),1,8) by kernel_rfl)
 exact⟨i0,_,hi,hz0,hz1,hz2,rfl⟩⟩
section
variable {N:Nat × List Deferred} {T:Tb} {e:World} {L:List Ck} {x:Operand} {ty:TypeId} {pos:String} {af:Array Edge} {g:Option (Nat × Bool)} {dd:Option Nat}
theorem ebi {k:Int} (h:evT T x=some (.int .i64 k)):Ef Tryz.prog N T e L ⟨dd,.buildSlice 399 1 #[(0,x)],ty,pos,af,g⟩ fun K=>∀A,K (some (.slice A 1 1)) (.hp (own Oj A 1 [k])::L):=fun a w fr hp G kk => .inl (by
 obtain⟨i,z,hi,hz,hsz,hby,hzc⟩:=Sk.info;have hs1:i.size=1:=hsz;refine⟨.slice (some ⟨w.heap.size,0,none⟩) 1 1,w.alloc (.cells #[.int .i64 k] 3),?_,kk _ _ (hp.ownNew ((AJ.refl _ w).alloc _) ⟨by simp,by decide,.inr ⟨_,0,_,rfl,Go.heap_alloc_new w _,by simp[Oj,C7],by simp[Oj,C7]⟩⟩ DR)⟩
 have hfill:Instr.fill (fun q=>some (q*i.size,i.size)) ((Array.range (1*i.size)).map (z.cells[· % z.cells.size]!)) [(0,.int .i64 k)]=some #[.int .i64 k]:=by
  rw[hs1];generalize hzz:(Array.range (1*1)).map (z.cells[· % z.cells.size]!)=zz;have hz1:zz.size=1:=by rw[←hzz];simp
  rcases zz with⟨_|⟨v0,_|⟨v1,l⟩⟩⟩
  ·exact absurd hz1 (by simp)
  ·rfl
  ·exact absurd hz1 (by simp)
 have:=run_buildSlice (P:=Tryz.prog) w 399 3 1 #[(0,.int .i64 k)] #[.int .i64 k] i z Sk.ty hi hz (by rw[hs1];omega) (by rw[hs1];omega) hfill
 simp[execOp,fr.evT h,this])
end
theorem Ts {α:Type}:∀{L L':List α} {i:Nat} {c:α},nth L i=some c→put L i c=some L'→L=L'
 | [],_,_,_,h,_=>by cases h
 | x::l,L',0,c,h,h1=>by cases h;cases h1;rfl
 | x::l,L',i+1,c,h,h1=>by
  cases hp:put l i c with
  | none=>simp[put,hp] at h1
  | some l'=>
   simp[put,hp] at h1;subst h1;rw[Ts (i:=i) h hp]
section
variable {P:Program} {r:Option Nat} {n:Nat} {c:Code} {Q:Exit→Act→World→Prop} {N:Nat × List Deferred} {T:Tb} {e:World} {L L':List Ck}
theorem Zbs (i:Nat) {b t:Nat} {cs:List Value} (cs':List Value) (hL:nth L i=some (.blk b t cs)) (hc:cs=cs') (hL':put L i (.blk b t cs')=some L') (k:ZC P r n c Q N T e L'):ZC P r n c Q N T e L:=by subst hc;rw[Ts hL hL'];exact k
end
theorem Yo (s:Sh) {i:Nat} (h:i<4):nth [.bool s.a,.bool s.b,.bool s.c,.bool s.d] i=some (Value.bool (s.get i)):=by
 match i,h with
 | 0,_=>rfl
 | 1,_=>rfl
 | 2,_=>rfl
 | 3,_=>rfl
theorem LH (d:Ent) (v:Value) (x:Bool) {i:Nat} (h:i<4):put (d.cs v) (1+i) (.bool x)=some ((d.setS (d.sh.set i x)).cs v):=by
 match i,h with
 | 0,_=>rfl
 | 1,_=>rfl
 | 2,_=>rfl
 | 3,_=>rfl
theorem XY (d:Ent) (v:Value) {i:Nat} (h:i<4):nth (d.cs v) (1+i)=some (.bool (d.sh.get i)):=by
 match i,h with
 | 0,_=>rfl
 | 1,_=>rfl
 | 2,_=>rfl
 | 3,_=>rfl
theorem ZM (b:Nat) (n:Int) (bs:List Int) (ok:Byt bs n):Sp Tryz.prog 258 [pt b,.int .u32 n] [.hp (Bx b bs)] fun K=>K (.returned (.tuple #[.agg (bsE.cells (Ah bs n)).toArray,.int .i64 0])) [.hp (Bx b bs)]:=⟨fun e X w Φ hp hS=>by
 have h0:=ok.n0;have h1:=ok.l;have h2:=ok.n1;have hn:n=(n.toNat:Int):=by omega
 have hb:bsE.cells (Ah bs n)=(Di bs n.toNat).map (Value.int .u8):=by rw[←ok.line];rfl
 rw[hb] at hS;rw[hn]
 exact(gL b n.toNat bs h1 (by omega)).run e X w Φ hp ⟨fun _=>hS,fun h=>absurd h2 (by omega)⟩⟩
theorem Z5 (b:Nat) (n:Int) (bs:List Int) (x:B16) (ok:Byt bs n):Sp Tryz.prog 56 [pt b,.int .u32 n,.agg (bsE.cells x).toArray] [.hp (Bx b bs)] fun K=>K (.returned (.int .i64 0)) [.hp (Bx b (setLn bs n x))]:=⟨fun e X w Φ hp hS=>by
 have h0:=ok.n0;have h1:=ok.l;have h2:=ok.n1;have hn:n=(n.toNat:Int):=by omega
 have hp':=(c56 b n.toNat bs x.1 x.2.1 h1 (by omega)).run e X w Φ hp ⟨fun _=>hS,fun h=>absurd h2 (by omega)⟩;rw[←hn] at hp'
 exact hp'⟩
theorem Z1 (bw bh bi r:Nat) (n k:Int) (d:Ent) (out:List Msg) (bs:List Int):Sp Tryz.prog 301 [pt bw,.int .i64 k] [.hp (Bb bw bh bi r n d out bs)] fun K=>∀A cap,K (.returned (.slice A (othersF d.sh k).length cap)) [.hp (own Oj A cap (othersF d.sh k)),.hp (Bb bw bh bi r n d out bs)]:=by
 refine Zen Tryz.func301 U U U fun e X Φ hS=>Zoc 0 AG U<|fun ok be A cap Aq cq=>?_;refine Zsr<|Zy U<|Zns<|Zy U<|Aj ?_;refine Za 6 [1,0,1] U U<|Zv (yda 1 (m:=4) U U U U)<|Zm U<|Zn ?_;refine Zbl ?_;refine Zic (fun _ hs=>Ag (E:=Oj) hs) ?_
 refine Zlq (ι:={ p:Nat × Option Addr × Nat // p.1≤4 }) (fun p=>[(15,.int .i64 (p.1.1:Int)),(14,.agg [.bool d.sh.a,.bool d.sh.b,.bool d.sh.c,.bool d.sh.d].toArray),(5,.slice p.1.2.1 (othK d.sh k p.1.1).length p.1.2.2),(1,.int .i64 k)]) (fun p=>[.hp (own Oj p.1.2.1 p.1.2.2 (othK d.sh k p.1.1))]) (fun p=>4-p.1.1) ⟨(0,none,0),by simp⟩ ⟨U,U,U,U,trivial⟩ [0] U fun p=>Zsr<|Zv (ylt U U)<|Znq<|Zif U (fun h16=>?_) (fun h16=>?_);refine Zkn<|Zsq<|Zbl<|Zsr<|Zm U ?_;rotate_left;refine Zex<|Zxt<|Zxt<|Zxx<|Zxs<|Zb 2 U<|Zn ?_;refine Zrt ?_;rotate_left
 ·refine Zv (yix (i:=p.1.1) U U (Yo d.sh (by omega)) Tryz.underlying163 (Nat.ble_eq_true_of_le (show p.1.1+1≤4 by omega)))<|Zb 2 U<|Zns<|Zb 2 U<|Zgb U U (fun h20=>?_) (fun h20=>?_);refine Zg' U U h20<|Zm U<|Zg' U U h20<|Zm U<|Zg' U U h20<|Zv (yne U U)<|Zv (Ax U h20 U)<|Zn<|Zif U (fun h24=>?_) (fun h24=>?_);refine Zrg<|Zb 2 U ?_;rotate_left;refine Zsk<|Zxn<|Znx<|Zrg<|Zv (Ac U U (Ar U (by omega)))<|Zm U<|Znl ?_;rotate_left;refine Zu' U U h20 U<|Zu' U U h20 U<|Zu' U U h20 U<|Zv (Ao U h20 U)<|Zn<|Zcf U<|Zsk<|Zxn<|Znx ?_;refine Zrg<|Zv (Ac U U (Ar U (by omega)))<|Zm U<|Znl ?_
  rotate_left
  ·have e1:othK d.sh k (p.1.1+1)=othK d.sh k p.1.1++[(p.1.1:Int)]:=by rw[othK,if_pos (by rw[h20];simpa using h24)]
   have hl:=G0 d.sh k p.1.1;have hm:(othK d.sh k p.1.1).length+[(p.1.1:Int)].length≤maxLen:=CY (by show(othK d.sh k p.1.1).length+1≤_;omega);refine Ze (ebi U)<|fun B=>Zw ?_;refine Ze (Dp 1 0 Sk U U U own.rd U U U (fun _ _=>U) (by show(_+1)*8≤_;omega) hm)<|fun A' cap'=>Zw<|Zy U<|Znl<|Zxn<|Znx<|Zrg<|Zv (Ac U U (Ar U (by omega)))<|Zm U<|Znl ?_;rw[←e1];refine Zlr ⟨(p.1.1+1,A',cap'),by omega⟩ (by show 4-(p.1.1+1)<4-p.1.1;omega) ⟨U,U,U,U,trivial⟩ [1] 1 U U
  ·have e1:othK d.sh k (p.1.1+1)=othK d.sh k p.1.1:=by rw[othK,if_neg (by rw[h20];simpa using h24)]
   rw[←e1];refine Zlr ⟨(p.1.1+1,p.1.2.1,p.1.2.2),by omega⟩ (by show 4-(p.1.1+1)<4-p.1.1;omega) ⟨U,U,U,U,trivial⟩ [0] 0 U U
  ·have e1:othK d.sh k (p.1.1+1)=othK d.sh k p.1.1:=by rw[othK,if_neg (by simp[h20])]
   rw[←e1];refine Zlr ⟨(p.1.1+1,p.1.2.1,p.1.2.2),by omega⟩ (by show 4-(p.1.1+1)<4-p.1.1;omega) ⟨U,U,U,U,trivial⟩ [0] 0 U U
 ·have e1:othersF d.sh k=othK d.sh k p.1.1:=by have:=p.2;rw[show p.1.1=4 by omega];rfl
  rw[←e1];refine Zfx [1,1,1,1,1,1] (Ae (d:=d) (out:=out) ok) U<|Zre (.t U .n) (hS _ _) [1,0] 0 U U U U
theorem Ld (bw bh bi r:Nat) (n kind dst:Int) (hn:U32 n) (by_:Bool) (d:Ent) (out:List Msg) (bs:List Int) (hl:out.length≤1000000):Sp Tryz.prog 230 [pt bw,.int .i64 kind,.int .i64 dst,.bool by_] [.hp (Bb bw bh bi r n d out bs)] fun K=>K (.returned (.tuple #[])) [.hp (Bb bw bh bi r n d (out++[mkM kind 4 dst n (if by_ then Ah bs n else AE) hn]) bs)]:=by
 cases by_ with
 | false=>
  refine Zen Tryz.func230 U U U fun e X Φ hS=>Zoc 0 AG U<|fun ok be A cap Aq cq=>?_;refine Zsr<|Za 6 [3,0] U U<|Zv (yb Vq U)<|Ze (eal Iy) fun b8=>Zw<|Ze (esw 0 (m:=20) U U U U U U U)<|Zw0 ?_;refine Aj<|Zm U<|Zn<|Zcf U<|Zkn ?_;refine Zbs 0 (Al.cells (mkM kind 4 dst n AE hn)) U U U ?_;refine Zhf 9 [3] U U<|Zht 0 U (ym U)<|Zht 1 U (ym U)<|Zht 2 U (yn U)<|Zht 3 U (yf 0 U)<|Zht 4 U (yf 0 U)<|Zht 5 U (yd 1 U U U)<|Zht 6 U (ydw 0 (m:=20) U U (Enc.len ..))<|ZH1 7<|Zoe U (eb1 BZ (by decide) U) fun A40=>Zwh 2 U ?_
  have hm:out.length+[mkM kind 4 dst n AE hn].length≤maxLen:=CY (by show out.length+1≤_;omega);refine ZH1 8<|Zoe U (Dp 1 0 BZ U U U own.rd U U U (fun _ _=>U) (by simp;omega) hm)<|fun A' cap'=>Zwh 2 U<|ZHn<|Ztl U<|Ztv (yn U)<|Ztv (yf 0 U)<|Ztv (yf 0 U)<|Zte (es 3 U U U U U)<|Ztw<|Ztn<|Zee ?_;refine Zfx [3,3,1,2,2,2] (Ae (d:=d) (out:=out++[mkM kind 4 dst n AE hn]) ok) U<|Zre .n hS [0] 2 U U U U
 | true=>
  refine Zen Tryz.func230 U U U fun e X Φ hS=>Zoc 0 AG U<|fun ok be A cap Aq cq=>?_;refine Zsr<|Za 6 [3,0] U U<|Zv (yb Vq U)<|Ze (eal Iy) fun b8=>Zw<|Ze (esw 0 (m:=20) U U U U U U U)<|Zw0 ?_;refine Aj<|Zm U<|Zn<|Zct U ?_;refine Zbs 0 (Al.cells (mkM kind 4 dst n AE hn)) U U U ?_;refine Zhd [0,5] U U<|Zht 0 U (ym U)<|Zht 1 U (yn U)<|Zht 2 U (yf 2 U)<|Zht 3 U (yd 0 U U U)<|Zht 4 U (yn U)<|Zht 5 U (yf 0 U)<|Zht 6 U (yd 4 U U U)<|Zht 7 U (ym U)<|Zht 8 U (yn U) ?_;refine Zht 9 U (yf 3 U)<|Zht 10 U (yd 0 U U U) ?_
  refine ZH1 11<|Zok (ZM bi n bs ok) [1] U U U<|Zqh 2 U<|Zht 12 U (ym U)<|Zht 13 U (yx U U)<|Zht 14 U (yx U U)<|Zht 15 U (yf 4 U)<|ZH1 16<|Zoe U (esc 1 (m:=16) U U U (LF _ _) U (Enc.len ..) (by rw[Enc.len];decide) (Enc.allL ..))<|Ay 2 U<|ZHn<|Znx ?_;refine Zhf 9 [4] U U<|Zht 0 U (ym U)<|Zht 1 U (ym U)<|Zht 2 U (yn U)<|Zht 3 U (yf 0 U)<|Zht 4 U (yf 0 U)<|Zht 5 U (yd 2 U U U)<|Zht 6 U (ydw 1 (m:=20) U U (Enc.len ..))<|ZH1 7<|Zoe U (eb1 BZ (by decide) U) fun A40=>Zwh 2 U ?_;have hm:out.length+[mkM kind 4 dst n (Ah bs n) hn].length≤maxLen:=CY (by show out.length+1≤_;omega)
  refine ZH1 8<|Zoe U (Dp 1 0 BZ U U U own.rd U U U (fun _ _=>U) (by simp;omega) hm)<|fun A' cap'=>Zwh 2 U<|ZHn<|Ztl U<|Ztv (yn U)<|Ztv (yf 0 U)<|Ztv (yf 0 U)<|Zte (es 4 U U U U U)<|Ztw<|Ztn<|Zee ?_;refine Zfx [4,4,1,3,3,1] (Ae (d:=d) (out:=out++[mkM kind 4 dst n (Ah bs n) hn]) ok) U<|Zre .n hS [0] 2 U U U U
def Af (m:Msg) (kind dst:Int) (b:B16:=AE):Msg:=mkM kind 4 dst m.line b m.hn
def beginF (bs:List Int) (d:Ent) (m:Msg):Ent × List Int × List Msg:=
 if m.kind=3 then((Ab d m.src),(if d.o=m.src then setLn bs m.line m.bs else bs),[Af m 7 m.src])
 else
  let e:=Ab d m.src
  if 0≤e.o then(AU e m 1 false,bs,[Af m (3+m.kind) e.o])
  else if m.kind=2 then
   if othersF e.sh m.src=[] then(AU (Cr e m.src) m 0 true,bs,[Af m 10 m.src (Ah bs m.line)])
   else(AU e m (othersF e.sh m.src).length false,bs,(othersF e.sh m.src).map (Af m 6))
  else if othersF e.sh m.src=[] then(AU (Cr e m.src) m 0 true,bs,[Af m 9 m.src (Ah bs m.line)])
  else(AU (e.setS (e.sh.set m.src true)) m 0 true,bs,[Af m 8 m.src (Ah bs m.line)])
def FE (d:Ent):Ent:=(Cr d d.asks).setT true
theorem W9 (bw bh bi r:Nat) (n:Int) (hn:U32 n) (d:Ent) (out:List Msg) (bs:List Int) (hl:out.length≤1000000):Sp Tryz.prog 228 [pt bw] [.hp (Bb bw bh bi r n d out bs)] fun K=>K (.returned (.tuple #[])) [.hp (Bb bw bh bi r n (FE d) (out++[mkM 10 4 d.asks n (Ah bs n) hn]) bs)]:=by
 refine Zen Tryz.func228 U U U fun e X Φ hS=>Zoc 0 AG U<|fun ok be A cap Aq cq=>?_;refine Zsr<|Za 8 [1,0,6,1] U U ?_;refine Zfl [0,0,0,0,0,0] (Ae (d:=d) (out:=out) ok) U<|Zk (Xa ..) [0] U U<|Zq<|Zns<|Za 4 [1] U U ?_;refine Zol 0 AG U<|fun _ be A cap Aq cq=>Zv (yd 0 U U U)<|Za 3 [6,1] U U ?_;refine Zfl [0,0,0,0,0,0] (Ae (d:=Cr d d.asks) (out:=out) ok) U ?_;refine Zk (Ld bw bh bi r n 10 d.asks hn true (Cr d d.asks) out bs hl) [0] U U<|Zq<|Zn<|Zrg<|Za 3 [1] U U ?_
 refine Zol 0 AG U<|fun _ be A cap Aq cq=>Zv (yd 0 U U U)<|Za 2 [9] U U<|Ze (es 1 U U U U U)<|Zw0<|Znl<|Zee ?_;refine Zfx [0,0,0,0,0,0] (Ae (d:=FE d) (out:=out++[mkM 10 4 d.asks n (Ah bs n) hn]) ok) U<|Zre .n hS [0] 0 U U U U
theorem gI (bw bh bi r:Nat) (m:Msg) (d:Ent) (out:List Msg) (bs:List Int) (hk:m.kind=1) (h0:0≤m.src) (h4:m.src<4) (hl:out.length≤1000000):Sp Tryz.prog 255 [pt bw,.agg (Al.arr m)] [.hp (Bb bw bh bi r m.line d out bs)] fun K=>K (.returned (.tuple #[])) [.hp (Bb bw bh bi r m.line (beginF bs d m).1 (out++(beginF bs d m).2.2) (beginF bs d m).2.1)]:=by
 refine Zen Tryz.func255 U U U fun e X Φ hS=>Zsr<|Ze (A8 U) fun b3=>Zw<|Zns<|Za 3 [1,0] U U<|Zk (Z0 ..) [1] U U ?_;refine Zq<|Znb<|Zsr<|Za 3 [1] U U ?_;refine Zol 0 AG U<|fun ok be A cap Aq cq=>Zv (yd 0 U U U)<|Za 5 [0,1] U U<|Zn<|Zif U (fun h19=>?_) (fun h19=>?_);refine Zsr<|Za 8 [1,0,0,1] U U ?_;rotate_left;refine Zsr<|Za 3 [1,6] U U ?_;rotate_left
 ·have e1:beginF bs d m=(AU (Ab d m.src) m 1 false,bs,[Af m 4 (Ab d m.src).o]):=by unfold beginF;rw[if_neg (by omega)];simp only[];rw[if_pos h19,hk];rfl
  rw[e1] at hS;refine Zfl [0,0,0,0,0,0] (Ae (d:=Ab d m.src) (out:=out) ok) U ?_;refine Zol 0 AG U<|fun _ be A cap Aq cq=>?_;refine Zfl [0,0,0,0,0,0] (Ae (d:=Ab d m.src) (out:=out) ok) U ?_;refine Zk (Ld bw bh bi r m.line 4 (Ab d m.src).o m.hn false (Ab d m.src) out bs hl) [0] U U<|Zq<|Zn<|Zrg<|Zm U<|Zv (ydw 1 (m:=20) U U (Enc.len ..))<|Zk (RU ..) [0] U U<|Zq<|Znl ?_;refine Zxn<|Zee<|Zre .n hS [0] 1 U U U U
 ·refine Zfl [0,0,0,0,0,0] (Ae (d:=Ab d m.src) (out:=out) ok) U<|Zk (Z1 ..) [0] U U<|fun A_1=>fun cap_1=>Zq<|Zv (Aw ⟨_,Tryz.underlying399⟩ U)<|Zb 2 U<|Zn ?_;refine Zif U (fun h40=>?_) (fun h40=>?_);refine Zsq ?_;rotate_left;refine Zsr<|Za 3 [1,2] U U<|Zk (Xa ..) [1] U U<|Zq<|Zns<|Zm U ?_;refine Za 2 [1,2] U U ?_;rotate_left
  ·have ho:othersF (Ab d m.src).sh m.src≠[]:=fun h=>by rw[h] at h40;exact absurd h40 (by decide)
   have e1:beginF bs d m=(AU ((Ab d m.src).setS ((Ab d m.src).sh.set m.src true)) m 0 true,bs,[Af m 8 m.src (Ah bs m.line)]):=by unfold beginF;rw[if_neg (by omega)];simp only[];rw[if_neg h19,if_neg (by omega),if_neg ho]
   rw[e1] at hS;obtain⟨i,hi⟩:=Int.eq_ofNat_of_zero_le h0;refine Zoc 1 AG U<|fun _ be A cap Aq cq=>?_;refine Zhd [1] U U<|Zht 0 U (ym U)<|Zht 1 U (yn U)<|Zht 2 U (yf 1 U)<|Zht 3 U (yd 0 U U U)<|Zht 4 U (yf 1 U)<|Zht 5 U (yd 6 U U U)<|Zht 6 U (yn U)<|Zht 7 U (yf 1 U) ?_;refine Zht 8 U (yai (i:=i) Tryz.underlying163 U (congrArg (fun x=>some (Value.int .i64 x)) hi) (by omega)) ?_;refine ZH1 9<|Zoe U (es 0 U U U (LH _ _ _ (i:=i) (by omega)) U)<|Ay 1 U<|ZHn<|Zxs<|Za 3 [1,7] U U ?_;rw[←hi]
   refine Zfl [1,0,0,0,0,0] (Ae (d:=(Ab d m.src).setS ((Ab d m.src).sh.set m.src true)) (out:=out) ok) U ?_;refine Zk (Ld bw bh bi r m.line 8 m.src m.hn true ((Ab d m.src).setS ((Ab d m.src).sh.set m.src true)) out bs hl) [0] U U<|Zq<|Zn<|Zrg<|Zm U<|Zv (ydw 2 (m:=20) U U (Enc.len ..))<|Zk (RU ..) [0] U U<|Zq<|Znl ?_;refine Zxn<|Zee<|Zre .n hS [0] 2 U U U U
  ·have ho:othersF (Ab d m.src).sh m.src=[]:=List.length_eq_zero_iff.1 (by omega);have e1:beginF bs d m=(AU (Cr (Ab d m.src) m.src) m 0 true,bs,[Af m 9 m.src (Ah bs m.line)]):=by unfold beginF;rw[if_neg (by omega)];simp only[];rw[if_neg h19,if_neg (by omega),if_pos ho]
   rw[e1] at hS;refine Zk (Ld bw bh bi r m.line 9 m.src m.hn true (Cr (Ab d m.src) m.src) out bs hl) [0] U U<|Zq<|Zn<|Zrg<|Zm U<|Zv (ydw 2 (m:=20) U U (Enc.len ..))<|Zk (RU ..) [0] U U<|Zq<|Znl ?_;refine Zxn<|Zee<|Zre .n hS [0] 2 U U U U
theorem gJ (bw bh bi r:Nat) (m:Msg) (d:Ent) (out:List Msg) (bs:List Int) (hk:m.kind=2) (hl:out.length≤900000):Sp Tryz.prog 256 [pt bw,.agg (Al.arr m)] [.hp (Bb bw bh bi r m.line d out bs)] fun K=>K (.returned (.tuple #[])) [.hp (Bb bw bh bi r m.line (beginF bs d m).1 (out++(beginF bs d m).2.2) (beginF bs d m).2.1)]:=by
 refine Zen Tryz.func256 U U U fun e X Φ hS=>Zsr<|Ze (A8 U) fun b3=>Zw<|Zns<|Za 3 [1,0] U U<|Zk (Z0 ..) [1] U U ?_;refine Zq<|Aj<|Za 3 [1] U U ?_;refine Zol 0 AG U<|fun ok be A cap Aq cq=>Zv (yd 0 U U U)<|Za 4 [0,1] U U<|Zn<|Zif U (fun h18=>?_) (fun h18=>?_);refine Zsr<|Za 8 [1,0,0,1] U U ?_;rotate_left;refine Zks<|Za 3 [1,6] U U ?_;rotate_left
 ·have e1:beginF bs d m=(AU (Ab d m.src) m 1 false,bs,[Af m 5 (Ab d m.src).o]):=by unfold beginF;rw[if_neg (by omega)];simp only[];rw[if_pos h18,hk];rfl
  rw[e1] at hS;refine Zfl [0,0,0,0,0,0] (Ae (d:=Ab d m.src) (out:=out) ok) U ?_;refine Zol 0 AG U<|fun _ be A cap Aq cq=>?_;refine Zfl [0,0,0,0,0,0] (Ae (d:=Ab d m.src) (out:=out) ok) U ?_;refine Zk (Ld bw bh bi r m.line 5 (Ab d m.src).o m.hn false (Ab d m.src) out bs (by omega)) [0] U U<|Zq<|Zns<|Zm U<|Zv (ydw 1 (m:=20) U U (Enc.len ..))<|Zk (RU ..) [0] U U<|Zq<|Znl ?_;refine Zxr<|Zr1<|Zre .n hS [0] 1 U U U U
 ·refine Zfl [0,0,0,0,0,0] (Ae (d:=Ab d m.src) (out:=out) ok) U<|Zk (Z1 ..) [0] U U<|fun A_1=>fun cap_1=>Zq<|Zy U<|Aj ?_;refine Zm U<|Zv (Aw ⟨_,Tryz.underlying399⟩ U)<|Zm U<|Znb ?_;have hdef:beginF bs d m=if othersF (Ab d m.src).sh m.src=[] then(AU (Cr (Ab d m.src) m.src) m 0 true,bs,[Af m 10 m.src (Ah bs m.line)]) else(AU (Ab d m.src) m (othersF (Ab d m.src).sh m.src).length false,bs,(othersF (Ab d m.src).sh m.src).map (Af m 6)):=by unfold beginF;rw[if_neg (by omega)];simp only[];rw[if_neg h18,if_pos hk]
  have ho4:(othersF (Ab d m.src).sh m.src).length≤4:=G0 _ _ 4;generalize othersF (Ab d m.src).sh m.src=os at hdef ho4⊢;have hout:out=out++(os.take 0).map (Af m 6):=by simp
  rw[hout];refine Zlq (ι:={ i:Nat // i≤os.length }) (fun i=>[(37,.int .i64 (i.1:Int)),(36,.int .i64 (os.length:Int)),(35,.slice A_1 os.length cap_1),(4,.slice A_1 os.length cap_1),(0,pt bw),(3,pt b3)]) (fun i=>[.hp (Bb bw bh bi r m.line (Ab d m.src) (out++(os.take i.1).map (Af m 6)) bs)]) (fun i=>os.length-i.1) ⟨0,by omega⟩ ⟨U,U,U,U,U,U,trivial⟩ [1] U fun i=>Zsr<|Zv (ylt U U)<|Znq<|Zif U (fun h38=>?_) (fun h38=>?_)
  refine Zkn<|Zsq<|Zbl<|Zsr<|Zv (yea 1 own.rd U U U (by first|assumption|omega) U Tryz.underlying399 U)<|Zv (yec (m:=0) 1 own.rd U (gE (by first|assumption|omega)) U U U)<|Zy U<|Zn ?_;refine Zrg<|Zb 2 U ?_;rotate_left;refine Zex<|Zxt<|Zxt<|Zxx<|Zxs<|Zm U<|Zv (ydw 2 (m:=20) U U (Enc.len ..))<|Zm U<|Zv (Aw ⟨_,Tryz.underlying399⟩ U) ?_;refine Zk (RU ..) [0] U U<|Zq<|Zns<|Zm U<|Zv (Aw ⟨_,Tryz.underlying399⟩ U)<|Zv (yeq U U)<|Zn ?_;refine Zif U (fun h52=>?_) (fun h52=>?_);refine Zrg<|Zm U ?_;rotate_left;refine Zsk<|Zee ?_;rotate_left
  ·have hx:=gE (l:=os) (k:=i.1) (by omega);have e2:out++(os.take (i.1+1)).map (Af m 6)=(out++(os.take i.1).map (Af m 6))++[mkM 6 4 os[i.1] m.line (if false=true then Ah bs m.line else AE) m.hn]:=by rw[List.take_add_one,hx,Option.toList_some,List.map_append,←List.append_assoc];rfl
   have hl2:(out++(os.take i.1).map (Af m 6)).length≤1000000:=by simp;omega
   refine Zk (Ld bw bh bi r m.line 6 os[i.1] m.hn false (Ab d m.src) (out++(os.take i.1).map (Af m 6)) bs hl2) [0] U U<|Zq<|Znl<|Zxn<|Znx<|Zrg<|Zv (Ac U U (Ar U (by omega)))<|Zm U<|Znl ?_;rw[←e2];refine Zlr ⟨i.1+1,by omega⟩ (by show os.length-(i.1+1)<os.length-i.1;omega) ⟨U,U,U,U,U,U,trivial⟩ [0] 0 U U
  ·have h0:os=[]:=List.length_eq_zero_iff.1 (by omega);subst h0;rw[if_pos rfl] at hdef;rw[hdef] at hS;have e2:out++(([]:List Int).take i.1).map (Af m 6)=out:=by simp
   rw[e2];refine Zk (W9 bw bh bi r m.line m.hn (AU (Ab d m.src) m (([]:List Int).length:Int) false) out bs (by omega)) [0] U U<|Zq<|Znl<|Zee<|Zre .n hS [0] 2 U U U U
  ·have h0:os≠[]:=fun h=>h52 (by rw[h];rfl);have hi:=i.2;have e2:os.take i.1=os:=List.take_of_length_le (by omega);rw[if_neg h0] at hdef;rw[hdef] at hS;rw[e2];refine Zre .n hS [0] 2 U U U U
theorem gK (bw bh bi r:Nat) (m:Msg) (d:Ent) (out:List Msg) (bs:List Int) (hk:m.kind=3) (hl:out.length≤1000000):Sp Tryz.prog 257 [pt bw,.agg (Al.arr m)] [.hp (Bb bw bh bi r m.line d out bs)] fun K=>K (.returned (.tuple #[])) [.hp (Bb bw bh bi r m.line (beginF bs d m).1 (out++(beginF bs d m).2.2) (beginF bs d m).2.1)]:=by
 refine Zen Tryz.func257 U U U fun e X Φ hS=>Zoc 0 AG U<|fun ok be A cap Aq cq=>?_;refine Zsr<|Ze (A8 U) fun b3=>Zw<|Znq<|Zsq<|Zhd [] U U<|Zht 0 U (ym U)<|Zht 1 U (yn U)<|Zht 2 U (yf 1 U) ?_;refine Zht 3 U (yd 1 U U U)<|Zht 4 U (yn U)<|Zht 5 U (yf 0 U)<|Zht 6 U (yd 2 U U U)<|Zht 7 U (yf 1 U)<|Zht 8 U (yd 0 U U U)<|Zht 9 U (yeq U U)<|ZHn<|Znx<|Zif U (fun h13=>?_) (fun h13=>?_);refine Zsq ?_;rotate_left;refine Zkn<|Zrg<|Za 3 [1,0] U U ?_;rotate_left
 ·have e1:beginF bs d m=(d.setO (-1),setLn bs m.line m.bs,[Af m 7 m.src]):=by unfold beginF Ab;rw[if_pos hk,if_pos h13,if_pos h13]
  rw[e1] at hS;refine Zhd [6] U U<|Zht 0 U (ym U)<|Zht 1 U (yn U)<|Zht 2 U (yf 2 U)<|Zht 3 U (yd 1 U U U)<|Zht 4 U (yn U)<|Zht 5 U (yf 0 U)<|Zht 6 U (yd 5 U U U)<|Zht 7 U (ym U)<|Zht 8 U (yn U) ?_;refine Zht 9 U (yf 3 U)<|Zht 10 U (yd 1 U U U)<|Zht 11 U (yf 4 U)<|Zht 12 U (yda 0 (m:=16) U U (E2 _) (Enc.len ..)) ?_;refine ZH1 13<|Zok (Z5 bi m.line bs m.bs ok) [0] U U U<|Zqh 1 U<|ZHn<|Znx<|Zrg<|Za 5 [1,2] U U ?_;refine Zv (yf 0 U)<|Ze (es 3 U U U U U)<|Zw0<|Zn<|Zrg<|Za 3 [1,1] U U ?_;refine Zfl [2,2,2,2,2,0] (Ae (d:=d.setO (-1)) (out:=out) (ok.set m.line U m.bs)) U ?_
  refine Zk (Ld bw bh bi r m.line 7 m.src m.hn false (d.setO (-1)) out (setLn bs m.line m.bs) hl) [0] U U<|Zq<|Znl<|Zee<|Zre .n hS [0] 1 U U U U
 ·have e1:beginF bs d m=(d,bs,[Af m 7 m.src]):=by unfold beginF Ab;rw[if_pos hk,if_neg h13,if_neg h13];rfl
  rw[e1] at hS;refine Zfl [1,1,1,1,1,1] (Ae (d:=d) (out:=out) ok) U ?_;refine Zk (Ld bw bh bi r m.line 7 m.src m.hn false d out bs hl) [0] U U<|Zq<|Znl<|Zee<|Zre .n hS [0] 1 U U U U
structure HD where
 bs:List Int
 E:List Ent
def Aa (E:List Ent) (n:Nat):Ent:=E.getD n ent0
structure IP (n:Int) (m:Msg):Prop where
 k:m.kind=1∨m.kind=2∨m.kind=3
 s0:0≤m.src
 s4:m.src<4
 l:m.line=n
structure EW (k:Nat) (n:Int) (d:Ent):Prop where
 a:0≤d.asks∧d.asks<4
 w:d.waits≤4
 q:∀m∈d.q,IP n m
 l:d.q.length≤k
structure HOk (k:Nat) (h:HD):Prop where
 r:∀a∈h.bs,0≤a∧a<256
 l:h.bs.length≤1048576
 p:0<h.bs.length
 e:h.E.length=h.bs.length/16
 w:∀n,n<h.E.length→EW k n (Aa h.E n)
theorem EW.mono {k k':Nat} {n:Int} {d:Ent} (h:EW k n d) (hk:k≤k'):EW k' n d:=⟨h.a,h.w,h.q,Nat.le_trans h.l hk⟩
theorem HOk.mono {k k':Nat} {h:HD} (a:HOk k h) (hk:k≤k'):HOk k' h:=⟨a.r,a.l,a.p,a.e,fun n hn=>(a.w n hn).mono hk⟩
def Il (b:Nat) (d:Ent):HP:=fun h=>∃A cap,Sep [.blk b 165 (d.cs (.slice A d.q.length cap)),.hp (own Al A cap d.q)] h
theorem Xv {b:Nat} {d:Ent}:Op_ (Il b d) fun K=>∀A cap,K [.blk b 165 (d.cs (.slice A d.q.length cap)),.hp (own Al A cap d.q)] := .mk fun G k h hh=>by obtain⟨A,cap,hs⟩:=hh;exact⟨_,k A cap,hs⟩
theorem DX {b cap:Nat} {A:Option Addr} {d:Ent}:∀h,Sep [.blk b 165 (d.cs (.slice A d.q.length cap)),.hp (own Al A cap d.q)] h→Il b d h:=fun _ hs=>⟨A,cap,hs⟩
abbrev C5 (E:List Ent) (es:List (Nat × Nat)):HP:=B6 (fun x:Nat × Nat=>Il x.2 (Aa E x.1)) es
structure KOk (E:List Ent) (es:List (Nat × Nat)):Prop where
 nd:(CR es).Nodup
 lt:∀n∈CR es,n<E.length
 no:∀n,n ∉ CR es→Aa E n=ent0
def Ci (k b:Nat) (h:HD):HP:=fun g=>HOk k h∧∃bi r es,KOk h.E es∧Sep [.blk b 158 [pt bi,.map (some r)],.hp (Bx bi h.bs),F1 .u32 r (mp es),.hp (C5 h.E es)] g
theorem Js {k b:Nat} {h:HD}:Op_ (Ci k b h) fun K=>HOk k h→∀bi r es,KOk h.E es→K [.blk b 158 [pt bi,.map (some r)],.hp (Bx bi h.bs),F1 .u32 r (mp es),.hp (C5 h.E es)] := .mk fun G k g hh=>by obtain⟨ok,bi,r,es,hk,hs⟩:=hh;exact⟨_,k ok bi r es hk,hs⟩
theorem Bs {k b bi r:Nat} {h:HD} {es:List (Nat × Nat)} (ok:HOk k h) (hk:KOk h.E es):∀g,Sep [.blk b 158 [pt bi,.map (some r)],.hp (Bx bi h.bs),F1 .u32 r (mp es),.hp (C5 h.E es)] g→Ci k b h g:=fun _ hs=>⟨ok,bi,r,es,hk,hs⟩
theorem Vb {E:List Ent} {n b:Nat} {a c:List (Nat × Nat)}:Op_ (C5 E (a++(n,b)::c)) fun K=>K [.hp (Il b (Aa E n)),.hp (C5 E (a++c))] := .mk fun G k h hh=>⟨_,k,GU a hh⟩
theorem Va {E:List Ent} {n b:Nat} {a c:List (Nat × Nat)}:∀h,Sep [.hp (Il b (Aa E n)),.hp (C5 E (a++c))] h→C5 E (a++(n,b)::c) h:=fun _ hs=>GT a hs
theorem c62 (k b:Nat) (h:HD):Sp Tryz.prog 62 [pt b] [.hp (Ci k b h)] fun K=>K (.returned (.bool false)) [.hp (Ci k b h)]:=by refine Zen Tryz.func62 U U U fun e X Φ hS=>Zoc 0 Js U<|fun ok bi r es hk=>?_;refine Zsr<|Zy U<|Zns<|Zm U<|Zv (D6 U U U)<|Zb 2 U ?_;refine Za 3 [0,0] U U<|Zg U U<|Zv (D6 U U U)<|Zb 2 U ?_;refine Znr ?_;refine Zfx [0,0,0,0] (Bs (k:=k) (h:=h) ok hk) U<|Zre (.t U .n) hS [0] 0 U U U U
theorem Zh (k b:Nat) (h:HD):Sp Tryz.prog 150 [pt b] [.hp (Ci k b h)] fun K=>K (.returned (.int .i64 (h.E.length:Int))) [.hp (Ci k b h)]:=by refine Zen Tryz.func150 U U U fun e X Φ hS=>?_;refine Zsq<|Zrg<|Zy U<|Aj<|Zm U<|Zk (c62 ..) [0] U U<|Zq ?_;refine Zn<|Zcf U<|Zks<|Za 3 [0] U U ?_;refine Zol 0 Js U<|fun ok bi r es hk=>Zv (yd 0 U U U)<|Zk (c74 ..) [1] U U<|Zq<|Zv (HV U U (by decide) U)<|Zy U<|Znr ?_;rw[WB ok.l,←ok.e];refine Zfx [1,0,0,0] (Bs (k:=k) (h:=h) ok hk) U<|Zre (.t U .n) hS [0] 0 U U U U
theorem c81 (A:Option Addr) (cap:Nat) (d:Ent) (hq:d.q.length≤1048576):Sp Tryz.prog 81 [.agg (d.cs (.slice A d.q.length cap)).toArray] [.hp (own Al A cap d.q)] fun K=>∀A' cap',K (.returned (.agg (d.cs (.slice A' d.q.length cap')).toArray)) [.hp (own Al A' cap' d.q),.hp (own Al A cap d.q)]:=by
 refine Zen Tryz.func81 U U U fun e X Φ hS=>Zoc 0 Ee U<|fun hA hcp hcm=>?_;refine Zsr<|Ze (ebx U) fun b1=>Zw<|Ze (eal Rj) fun b2=>Zw<|Zns<|Za 2 [10,1] U U ?_;refine Zk (Y9 _ A cap d.q own.rd hA hq) [2] U U<|fun A'=>fun cap'=>Zq<|Zv (yf 10 U)<|Ze (es 3 U U U U U)<|Zw0<|Zns<|Zv (ydw 3 (m:=11) U U U) ?_;refine Ze (esw 2 (m:=11) U U U U U U U)<|Zw0<|Znr<|Zre (.wh 2 (m:=11) U U U .n) (hS _ _) [0,0] 2 U U U U
theorem eX (k b n:Nat) (h:HD) (hn:n<h.E.length) (hk2:k≤1000000):Sp Tryz.prog 151 [pt b,.int .u32 (n:Int)] [.hp (Ci k b h)] fun K=>∀A cap,K (.returned (.agg ((Aa h.E n).cs (.slice A (Aa h.E n).q.length cap)).toArray)) [.hp (own Al A cap (Aa h.E n).q),.hp (Ci k b h)]:=by
 refine Zen Tryz.func151 U U U fun e X Φ hS=>Zoc 0 Js U<|fun ok bi r es hk=>?_;have hl:(Aa h.E n).q.length≤1048576:=by have:=(ok.w n hn).l;omega
 by_cases hin:n∈CR es
 ·obtain⟨a,b',c,rfl,ha,hc⟩:=Gj hk.nd hin;have hlk:=Lz (b:=b') hc ha;refine Zoc 3 Vb U<|?_;refine Zsr<|Ze (eal Rj) fun b4=>Zw<|Aj<|Za 4 [1,3] U U ?_;refine Zm U<|Zv (Ix 5 hlk U U U Tryz.underlying156 Tryz.underlying40 WM)<|Zy U<|Zns<|Zm U<|Zv (DN U U U)<|Zn ?_;refine Zct U<|Zsr<|Zb 2 U ?_;refine Zol 1 Xv U<|fun A cap=>Zv (ydw 0 (m:=11) U U U) ?_;refine Zk (c81 A cap (Aa h.E n) hl) [1] U U<|fun A'=>fun cap'=>Zq<|Ze (esw 3 (m:=11) U U U U U U U)<|Zw0<|Znr<|Zr1 ?_;refine Zfx [2,1] (DX (b:=b') (d:=Aa h.E n)) U ?_
  refine Zfx [0,2] (Va (E:=h.E) (n:=n) (b:=b') (a:=a) (c:=c)) U ?_;refine Zfx [3,3,3,0] (Bs (k:=k) (h:=h) ok hk) U<|Zre (.wh 2 (m:=11) U U U .n) (hS _ _) [1,0] 1 U U U U
 ·have hlk:=Na hin;refine Zsr<|Ze (eal Rj) fun b4=>Zw<|Aj<|Za 4 [1,1] U U ?_;refine Zm U<|Zv (Ix 3 hlk U U U Tryz.underlying156 Tryz.underlying40 WM)<|Zy U<|Zns<|Zm U<|Zv (DN U U U)<|Zn ?_;refine Zcf U<|Zks<|Zv (yb bA U)<|Ze (esw 0 (m:=11) U U U U U U U)<|Zw0<|Znr ?_;rw[hk.no n hin] at hS;refine Zix (fun _ hs=>Ag (E:=Al) hs) ?_;refine Zfx [2,2,2,2] (Bs (k:=k) (h:=h) ok hk) U<|Zre (.wh 2 (m:=11) U U U .n) (hS _ _) [1,0] 1 U U U U
abbrev P9 (c:Int):=LD (.iface 308 (.agg #[.int .i64 c]))
theorem W8 (fine:Bool) (why:Int):Sp Tryz.prog 227 [.bool fine,.int .i64 why] [] fun K=>(fine=true→K (.returned (.tuple #[])) [])∧(fine=false→K (.panicked (P9 why)) []):=by
 cases fine with
 | true=>
  refine Zen Tryz.func227 U U U fun e X Φ hS=>Zsr<|Zb 2 U<|Zn<|Zcf U<|Zsk<|Zee ?_;refine Zre .n (hS.1 U) [] 0 U U U U
 | false=>
  refine Zen Tryz.func227 U U U fun e X Φ hS=>Zsr<|Zb 2 U<|Zn<|Zct U<|Zrg<|Zm U<|Zv (yb bD U) ?_;refine Zv (ymi Tryz.underlying308 U U)<|Zpn U ?_;refine Zpe (hS.2 U) [] 0 U U
theorem ZB (bw bh bi r:Nat) (m:Msg) (d:Ent) (out:List Msg) (bs:List Int) (hk:m.kind=1∨m.kind=2∨m.kind=3) (h0:0≤m.src) (h4:m.src<4) (hl:out.length≤900000):Sp Tryz.prog 226 [pt bw,.agg (Al.arr m)] [.hp (Bb bw bh bi r m.line d out bs)] fun K=>K (.returned (.tuple #[])) [.hp (Bb bw bh bi r m.line (beginF bs d m).1 (out++(beginF bs d m).2.2) (beginF bs d m).2.1)]:=by
 refine Zen Tryz.func226 U U U fun e X Φ hS=>?_;refine Zsr<|Ze (A8 U) fun b3=>Zw<|Zn<|Zrg<|Ze (emk .i64) fun r4=>Zw<|Zm U<|Zv (yfn U U)<|Ze (ein 0 U U U U U U Tryz.underlying315 Tryz.underlying114)<|Zw0<|Zm U ?_;refine Zv (yfn U U)<|Ze (ein 0 U U U U U U Tryz.underlying315 Tryz.underlying114)<|Zw0<|Zm U<|Zv (yfn U U)<|Ze (ein 0 U U U U U U Tryz.underlying315 Tryz.underlying114)<|Zw0<|Za 3 [0,1] U U ?_;rcases hk with hk|hk|hk
 ·rw[hk];refine Zv (ylk 0 U U U Tryz.underlying315 Tryz.underlying114 Hf)<|Zv (ydw 1 (m:=20) U U (Enc.len ..)) ?_;refine Zkv (gI bw bh bi r m d out bs hk h0 h4 (by omega)) [2] U U U U<|Zq<|Znl<|Zee<|Zre .n hS [0] 2 U U U U
 ·rw[hk];refine Zv (ylk 0 U U U Tryz.underlying315 Tryz.underlying114 Hf)<|Zv (ydw 1 (m:=20) U U (Enc.len ..)) ?_;refine Zkv (gJ bw bh bi r m d out bs hk hl) [2] U U U U<|Zq<|Znl<|Zee<|Zre .n hS [0] 2 U U U U
 ·rw[hk];refine Zv (ylk 0 U U U Tryz.underlying315 Tryz.underlying114 Hf)<|Zv (ydw 1 (m:=20) U U (Enc.len ..)) ?_;refine Zkv (gK bw bh bi r m d out bs hk (by omega)) [2] U U U U<|Zq<|Znl<|Zee<|Zre .n hS [0] 2 U U U U
def DM (bs:List Int) (d:Ent) (m:Msg):Ent × List Int × List Msg:=if d.busy then(d.setQ (d.q++[m]),bs,[]) else beginF bs d m
theorem W6 (bw bh bi r:Nat) (m:Msg) (d:Ent) (out:List Msg) (bs:List Int) (hk:m.kind=1∨m.kind=2∨m.kind=3) (h0:0≤m.src) (h4:m.src<4) (hl:out.length≤900000) (hq:d.q.length≤1000000):Sp Tryz.prog 192 [pt bw,.agg (Al.arr m)] [.hp (Bb bw bh bi r m.line d out bs)] fun K=>K (.returned (.tuple #[])) [.hp (Bb bw bh bi r m.line (DM bs d m).1 (out++(DM bs d m).2.2) (DM bs d m).2.1)]:=by
 refine Zen Tryz.func192 U U U fun e X Φ hS=>Zoc 0 AG U<|fun ok be A cap Aq cq=>?_;refine Zsr<|Ze (A8 U) fun b3=>Zw<|Aj<|Za 4 [1,1] U U ?_;refine Za 3 [5,2] U U<|Zn<|Zib U (fun h10=>?_) (fun h10=>?_);refine Zsq ?_;rotate_left;refine Zkn<|Zrg<|Zm U<|Zv (ydw 0 (m:=20) U U (Enc.len ..)) ?_;rotate_left
 ·have e1:DM bs d m=(d.setQ (d.q++[m]),bs,[]):=if_pos h10;rw[e1] at hS;refine Zhf 14 [4] U U<|Zht 0 U (ym U)<|Zht 1 U (yn U)<|Zht 2 U (yf 1 U)<|Zht 3 U (yd 1 U U U)<|Zht 4 U (ym U)<|Zht 5 U (yn U)<|Zht 6 U (yf 1 U)<|Zht 7 U (yd 1 U U U)<|Zht 8 U (yn U) ?_;refine Zht 9 U (yf 10 U)<|Zht 10 U (yd 2 U U U)<|Zht 11 U (ydw 0 (m:=20) U U (Enc.len ..))<|ZH1 12<|Zoe U (eb1 BZ (by decide) U) fun A23=>Zwh 2 U ?_;have hm:d.q.length+[m].length≤maxLen:=CY (by show d.q.length+1≤_;omega)
  refine ZH1 13<|Zoe U (Dp 1 0 BZ U U U own.rd U U U (fun _ _=>U) (by simp;omega) hm)<|fun A' cap'=>Zwh 2 U<|ZHn<|Ztl U<|Ztv (yn U)<|Ztv (yf 10 U)<|Zte (es 4 U U U U U)<|Ztw<|Ztn<|Zxr<|Zr1 ?_;refine Zfx [3,3,3,1,2,2] (Ae (d:=d.setQ (d.q++[m])) (out:=out) ok) U ?_;rw[←List.append_nil out];refine Zre .n hS [0] 2 U U U U
 ·have e1:DM bs d m=beginF bs d m:=if_neg (by rw[h10];decide);rw[e1] at hS;refine Zfl [1,1,1,1,1,1] (Ae (d:=d) (out:=out) ok) U ?_;refine Zk (ZB bw bh bi r m d out bs hk h0 h4 hl) [0] U U<|Zq<|Znl<|Zee<|Zre .n hS [0] 1 U U U U
def DG (d:Ent) (m:Msg):Bool:=d.busy && decide (0<d.waits) && decide (d.o=m.src)
def C2 (bs:List Int) (d:Ent) (m:Msg):Ent × List Int × List Msg:=
 let bs':=setLn bs m.line m.bs
 if d.kind=2 then(FE (d.setW 0),bs',[Af m 10 d.asks (Ah bs' m.line)])
 else((((Cr (d.setW 0) (-1)).setS ((sh0.set m.src true).set d.asks true))).setT true,bs',[Af m 8 d.asks (Ah bs' m.line)])
theorem fK (bw bh bi r:Nat) (m:Msg) (d:Ent) (out:List Msg) (bs:List Int) (h0:0≤m.src) (h4:m.src<4) (ha:0≤d.asks∧d.asks<4) (hl:out.length≤900000):Sp Tryz.prog 193 [pt bw,.agg (Al.arr m)] [.hp (Bb bw bh bi r m.line d out bs)] fun K=>
  (DG d m=true→K (.returned (.tuple #[])) [.hp (Bb bw bh bi r m.line (C2 bs d m).1 (out++(C2 bs d m).2.2) (C2 bs d m).2.1)])∧(DG d m=false→K (.panicked (P9 220)) [.hp (Bb bw bh bi r m.line d out bs)]):=by
 refine Zen Tryz.func193 U U U fun e X Φ hS=>Zoc 0 AG U<|fun ok be A cap Aq cq=>?_;refine Zsr<|Ze (A8 U) fun b3=>Zw<|Znq<|Zhd [] U U<|Zht 0 U (ym U)<|Zht 1 U (yn U)<|Zht 2 U (yf 1 U)<|Zht 3 U (yd 1 U U U) ?_;refine Zht 4 U (yn U)<|Zht 5 U (yf 5 U)<|Zht 6 U (yd 2 U U U)<|Zht 7 U (ym U)<|Rr 8 U U U (fun h11=>?_) (fun h11=>?_)
 refine Zhg 8 U U (lkn U h11) (ym U)<|Zhg 9 U U (lkn U h11) (yn U)<|Zhg 10 U U (lkn U h11) (yf 1 U)<|Zhg 11 U U (lkn U h11) (yd 1 U U U)<|Zhg 12 U U (lkn U h11) (yn U)<|Zhg 13 U U (lkn U h11) (yf 8 U)<|Zhg 14 U U (lkn U h11) (yd 2 U U U)<|Zhg 15 U U (lkn U h11) (ygt U U)<|Zht 16 U (Ax U h11 U)<|Zht 17 U (ym U) ?_;refine IR 18 U U U (fun h21=>?_) (fun h21=>?_)
 refine Zhg 18 U U (lkn U (dT h21)) (ym U)<|Zhg 19 U U (lkn U (dT h21)) (yn U)<|Zhg 20 U U (lkn U (dT h21)) (yf 1 U)<|Zhg 21 U U (lkn U (dT h21)) (yd 1 U U U)<|Zhg 22 U U (lkn U (dT h21)) (yn U)<|Zhg 23 U U (lkn U (dT h21)) (yf 0 U)<|Zhg 24 U U (lkn U (dT h21)) (yd 2 U U U)<|Zhg 25 U U (lkn U (dT h21)) (yf 1 U)<|Zhg 26 U U (lkn U (dT h21)) (yd 0 U U U)<|Zhg 27 U U (lkn U (dT h21)) (yeq U U) ?_;refine Zht 28 U (Ax U (dT h21) U)<|ZH1 29<|Zok (W8 ..) [] U U U<|⟨?_,?_⟩
 refine fun a=>Zqh 0 rfl<|Zhn (by kernel_rfl)<|Znx<|Zsq ?_;rotate_left;refine fun a=>Dl<|Zp1 ?_;rotate_left;refine Zhu 18 U U (lkn U (dF h21)) U<|Zhu 19 U U (lkn U (dF h21)) U<|Zhu 20 U U (lkn U (dF h21)) U<|Zhu 21 U U (lkn U (dF h21)) U<|Zhu 22 U U (lkn U (dF h21)) U<|Zhu 23 U U (lkn U (dF h21)) U<|Zhu 24 U U (lkn U (dF h21)) U<|Zhu 25 U U (lkn U (dF h21)) U<|Zhu 26 U U (lkn U (dF h21)) U<|Zhu 27 U U (lkn U (dF h21)) U ?_;refine Zht 28 U (Ao U (dF h21) U)<|ZH1 29<|Zok (H1 (h:=U) ..) [] U U U<|Dl<|Zp1 ?_;rotate_left
 refine Zhu 8 U U (lkn U h11) U<|Zhu 9 U U (lkn U h11) U<|Zhu 10 U U (lkn U h11) U<|Zhu 11 U U (lkn U h11) U<|Zhu 12 U U (lkn U h11) U<|Zhu 13 U U (lkn U h11) U<|Zhu 14 U U (lkn U h11) U<|Zhu 15 U U (lkn U h11) U<|Zht 16 U (Ao U h11 U)<|Zht 17 U (ym U) ?_;refine Zhu 18 U U U U<|Zhu 19 U U U U<|Zhu 20 U U U U<|Zhu 21 U U U U<|Zhu 22 U U U U<|Zhu 23 U U U U<|Zhu 24 U U U U<|Zhu 25 U U U U<|Zhu 26 U U U U<|Zhu 27 U U U U ?_;refine Zht 28 U (ypf U U)<|ZH1 29<|Zok (H1 (h:=U) ..) [] U U U<|Dl<|Zp1 ?_;rotate_left
 ·have hb:DG d m=true:=by simp only[DG,h11,h21,a,decide_true,Bool.and_true]
  have hS:=hS.1 hb;obtain⟨i,hi⟩:=Int.eq_ofNat_of_zero_le h0;obtain⟨j,hj⟩:=Int.eq_ofNat_of_zero_le ha.1;have ok':=ok.set m.line rfl m.bs;refine Zhd [6] U U<|Zht 0 U (ym U)<|Zht 1 U (yn U)<|Zht 2 U (yf 2 U)<|Zht 3 U (yd 1 U U U)<|Zht 4 U (yn U)<|Zht 5 U (yf 0 U)<|Zht 6 U (yd 5 U U U)<|Zht 7 U (ym U)<|Zht 8 U (yn U) ?_;refine Zht 9 U (yf 3 U)<|Zht 10 U (yd 1 U U U)<|Zht 11 U (yf 4 U)<|Zht 12 U (yda 0 (m:=16) U U (E2 _) (Enc.len ..)) ?_;refine ZH1 13<|Zok (Z5 bi m.line bs m.bs ok) [0] U U U<|Zqh 1 U<|ZHn<|Zxs<|Za 5 [1,2] U U ?_
  refine Zv (yf 8 U)<|Ze (es 3 U U U U U)<|Zw0<|Aj<|Za 4 [1,2] U U ?_;refine Za 4 [7,3] U U<|Zn<|Zif U (fun h61=>?_) (fun h61=>?_);refine Zsr<|Zm U ?_;rotate_left;refine Zks<|Zm U ?_;rotate_left
  ·have e1:C2 bs d m=(FE (d.setW 0),setLn bs m.line m.bs,[Af m 10 d.asks (Ah (setLn bs m.line m.bs) m.line)]):=if_pos h61;rw[e1] at hS;refine Zfl [2,2,2,2,2,0] (Ae (d:=d.setW 0) (out:=out) ok') U ?_;refine Zk (W9 bw bh bi r m.line m.hn (d.setW 0) out (setLn bs m.line m.bs) (by omega)) [0] U U<|Zq<|Znr<|Zr1<|Zre .n hS [0] 1 U U U U
  ·have e1:C2 bs d m=((((Cr (d.setW 0) (-1)).setS ((sh0.set m.src true).set d.asks true))).setT true,setLn bs m.line m.bs,[Af m 8 d.asks (Ah (setLn bs m.line m.bs) m.line)]):=if_neg h61;rw[e1] at hS;refine Zfl [2,2,2,2,2,0] (Ae (d:=d.setW 0) (out:=out) ok') U<|Zk (Xa ..) [0] U U<|Zq<|Znq ?_;refine Zoc 0 AG U<|fun _ be A cap Aq cq=>?_;refine Zhd [1] U U<|Zht 0 U (ym U)<|Zht 1 U (yn U)<|Zht 2 U (yf 1 U)<|Zht 3 U (yd 0 U U U)<|Zht 4 U (yf 1 U)<|Zht 5 U (yd 5 U U U)<|Zht 6 U (ym U)<|Zht 7 U (yn U)<|Zht 8 U (yf 1 U) ?_
   refine Zht 9 U (yd 0 U U U)<|Zht 10 U (ym U)<|Zht 11 U (yn U)<|Zht 12 U (yf 1 U)<|Zht 13 U (yd 0 U U U)<|Zht 14 U (yn U)<|Zht 15 U (yf 6 U)<|Zht 17 U (yn U)<|Zht 18 U (yf 1 U)<|Zht 21 U (yn U) ?_;refine Zht 22 U (yf 1 U)<|ZH1 16<|Zov U (yd 0 U U U) ?_;refine Zht 19 U (yai (i:=i) Tryz.underlying163 U (congrArg (fun x=>some (Value.int .i64 x)) hi) (by omega)) ?_;refine ZH1 20<|Zoe U (es 0 U U U (LH _ _ _ (i:=i) (by omega)) U)<|Ay 1 U ?_;refine Zht 23 U (yai (i:=j) Tryz.underlying163 U (congrArg (fun x=>some (Value.int .i64 x)) hj) (by omega)) ?_
   refine ZH1 24<|Zoe U (es 0 U U U (LH _ _ _ (i:=j) (by omega)) U)<|Ay 1 U<|ZHn<|Zxs<|Za 6 [1,1] U U ?_;refine Za 2 [6,0] U U ?_;rw[←hi,←hj];refine Zfl [1,0,0,0,0,0] (Ae (d:=(Cr (d.setW 0) (-1)).setS ((sh0.set m.src true).set d.asks true)) (out:=out) ok') U ?_;refine Zol 0 AG U<|fun _ be A cap Aq cq=>?_;refine Zfl [0,0,0,0,0,0] (Ae (d:=(Cr (d.setW 0) (-1)).setS ((sh0.set m.src true).set d.asks true)) (out:=out) ok') U ?_
   refine Zk (Ld bw bh bi r m.line 8 d.asks m.hn true ((Cr (d.setW 0) (-1)).setS ((sh0.set m.src true).set d.asks true)) out (setLn bs m.line m.bs) (by omega)) [0] U U<|Zq<|Zn<|Zrg<|Za 3 [1] U U ?_;refine Zol 0 AG U<|fun _ be A cap Aq cq=>Zv (yd 0 U U U)<|Za 2 [9] U U<|Ze (es 1 U U U U U)<|Zw0<|Znl<|Zee ?_;refine Zfx [0,0,0,0,0,0] (Ae (d:=((Cr (d.setW 0) (-1)).setS ((sh0.set m.src true).set d.asks true)).setT true) (out:=out++[Af m 8 d.asks (Ah (setLn bs m.line m.bs) m.line)]) ok') U<|Zre .n hS [0] 1 U U U U
 ·refine Zfx [1,1,1,1,1,1] (Ae (d:=d) (out:=out) ok) U ?_;refine Zpe (hS.2 (by simp only[DG,h11,h21,a,decide_true,Bool.and_false])) [0] 1 U U
 ·refine Zfx [1,1,1,1,1,1] (Ae (d:=d) (out:=out) ok) U ?_;refine Zpe (hS.2 (by simp[DG,h11,h21])) [0] 1 U U
 ·refine Zfx [1,1,1,1,1,1] (Ae (d:=d) (out:=out) ok) U ?_;refine Zpe (hS.2 (by simp[DG,h11])) [0] 1 U U
def Ev (d:Ent) (m:Msg):Bool:=d.busy && decide (0<d.waits) && decide (d.o<0) && d.sh.get m.src && decide (m.src≠d.asks)
def ES (bs:List Int) (d:Ent) (m:Msg):Ent × List Int × List Msg:=
 let e:=(d.setS (d.sh.set m.src false)).setW (d.waits-1)
 if d.waits=1 then(FE e,bs,[Af m 10 d.asks (Ah bs m.line)]) else(e,bs,[])
theorem fL (bw bh bi r:Nat) (m:Msg) (d:Ent) (out:List Msg) (bs:List Int) (h0:0≤m.src) (h4:m.src<4) (hw:d.waits≤4) (hl:out.length≤900000):Sp Tryz.prog 194 [pt bw,.agg (Al.arr m)] [.hp (Bb bw bh bi r m.line d out bs)] fun K=>
  (Ev d m=true→K (.returned (.tuple #[])) [.hp (Bb bw bh bi r m.line (ES bs d m).1 (out++(ES bs d m).2.2) (ES bs d m).2.1)])∧(Ev d m=false→K (.panicked (P9 220)) [.hp (Bb bw bh bi r m.line d out bs)]):=by
 obtain⟨i,hi⟩:=Int.eq_ofNat_of_zero_le h0;have hg:d.sh.get m.src=d.sh.get (i:Int):=by rw[hi]
 refine Zen Tryz.func194 U U U fun e X Φ hS=>Zoc 0 AG U<|fun ok be A cap Aq cq=>?_;refine Zsr<|Ze (A8 U) fun b3=>Zw<|Znq<|Zhd [] U U<|Zht 0 U (ym U)<|Zht 1 U (yn U)<|Zht 2 U (yf 1 U)<|Zht 3 U (yd 1 U U U) ?_;refine Zht 4 U (yn U)<|Zht 5 U (yf 5 U)<|Zht 6 U (yd 2 U U U)<|Zht 7 U (ym U)<|Rr 8 U U U (fun h11=>?_) (fun h11=>?_)
 refine Zhg 8 U U (lkn U h11) (ym U)<|Zhg 9 U U (lkn U h11) (yn U)<|Zhg 10 U U (lkn U h11) (yf 1 U)<|Zhg 11 U U (lkn U h11) (yd 1 U U U)<|Zhg 12 U U (lkn U h11) (yn U)<|Zhg 13 U U (lkn U h11) (yf 8 U)<|Zhg 14 U U (lkn U h11) (yd 2 U U U)<|Zhg 15 U U (lkn U h11) (ygt U U)<|Zht 16 U (Ax U h11 U)<|Zht 17 U (ym U) ?_;refine IR 18 U U U (fun h21=>?_) (fun h21=>?_)
 refine Zhg 18 U U (lkn U (dT h21)) (ym U)<|Zhg 19 U U (lkn U (dT h21)) (yn U)<|Zhg 20 U U (lkn U (dT h21)) (yf 1 U)<|Zhg 21 U U (lkn U (dT h21)) (yd 1 U U U)<|Zhg 22 U U (lkn U (dT h21)) (yn U)<|Zhg 23 U U (lkn U (dT h21)) (yf 0 U)<|Zhg 24 U U (lkn U (dT h21)) (yd 2 U U U)<|Zhg 25 U U (lkn U (dT h21)) (ylt U U)<|Zht 26 U (Ax U (dT h21) U)<|Zht 27 U (ym U) ?_;refine IR 28 U U U (fun h31=>?_) (fun h31=>?_)
 refine Zhg 28 U U (lkn U (dT h31)) (ym U)<|Zhg 29 U U (lkn U (dT h31)) (yn U)<|Zhg 30 U U (lkn U (dT h31)) (yf 1 U)<|Zhg 31 U U (lkn U (dT h31)) (yd 1 U U U)<|Zhg 32 U U (lkn U (dT h31)) (yf 1 U)<|Zhg 33 U U (lkn U (dT h31)) (yd 0 U U U)<|Zhg 34 U U (lkn U (dT h31)) (yn U)<|Zhg 35 U U (lkn U (dT h31)) (yf 1 U) ?_;rotate_left
 refine Zhu 28 U U (lkn U (dF h31)) U<|Zhu 29 U U (lkn U (dF h31)) U<|Zhu 30 U U (lkn U (dF h31)) U<|Zhu 31 U U (lkn U (dF h31)) U<|Zhu 32 U U (lkn U (dF h31)) U<|Zhu 33 U U (lkn U (dF h31)) U<|Zhu 34 U U (lkn U (dF h31)) U<|Zhu 35 U U (lkn U (dF h31)) U<|Zhu 36 U U (lkn U (dF h31)) U<|Zhu 37 U U (lkn U (dF h31)) U ?_;refine Zht 38 U (Ao U (dF h31) U)<|Zht 39 U (ym U)<|Zhu 40 U U U U<|Zhu 41 U U U U<|Zhu 42 U U U U<|Zhu 43 U U U U<|Zhu 44 U U U U<|Zhu 45 U U U U<|Zhu 46 U U U U<|Zhu 47 U U U U ?_
 refine Zhu 48 U U U U<|Zhu 49 U U U U<|Zht 50 U (ypf U U)<|ZH1 51<|Zok (H1 (h:=U) ..) [] U U U<|Dl<|Zp1 ?_;rotate_left;refine Zhu 18 U U (lkn U (dF h21)) U<|Zhu 19 U U (lkn U (dF h21)) U<|Zhu 20 U U (lkn U (dF h21)) U<|Zhu 21 U U (lkn U (dF h21)) U<|Zhu 22 U U (lkn U (dF h21)) U<|Zhu 23 U U (lkn U (dF h21)) U<|Zhu 24 U U (lkn U (dF h21)) U<|Zhu 25 U U (lkn U (dF h21)) U<|Zht 26 U (Ao U (dF h21) U)<|Zht 27 U (ym U) ?_;refine Zhu 28 U U U U<|Zhu 29 U U U U<|Zhu 30 U U U U<|Zhu 31 U U U U<|Zhu 32 U U U U<|Zhu 33 U U U U<|Zhu 34 U U U U<|Zhu 35 U U U U<|Zhu 36 U U U U<|Zhu 37 U U U U ?_
 refine Zht 38 U (ypf U U)<|Zht 39 U (ym U)<|Zhu 40 U U U U<|Zhu 41 U U U U<|Zhu 42 U U U U<|Zhu 43 U U U U<|Zhu 44 U U U U<|Zhu 45 U U U U<|Zhu 46 U U U U<|Zhu 47 U U U U ?_;refine Zhu 48 U U U U<|Zhu 49 U U U U<|Zht 50 U (ypf U U)<|ZH1 51<|Zok (H1 (h:=U) ..) [] U U U<|Dl<|Zp1 ?_;rotate_left;refine Zhu 8 U U (lkn U h11) U<|Zhu 9 U U (lkn U h11) U<|Zhu 10 U U (lkn U h11) U<|Zhu 11 U U (lkn U h11) U<|Zhu 12 U U (lkn U h11) U<|Zhu 13 U U (lkn U h11) U<|Zhu 14 U U (lkn U h11) U<|Zhu 15 U U (lkn U h11) U<|Zht 16 U (Ao U h11 U)<|Zht 17 U (ym U) ?_
 refine Zhu 18 U U U U<|Zhu 19 U U U U<|Zhu 20 U U U U<|Zhu 21 U U U U<|Zhu 22 U U U U<|Zhu 23 U U U U<|Zhu 24 U U U U<|Zhu 25 U U U U<|Zht 26 U (ypf U U)<|Zht 27 U (ym U) ?_;refine Zhu 28 U U U U<|Zhu 29 U U U U<|Zhu 30 U U U U<|Zhu 31 U U U U<|Zhu 32 U U U U<|Zhu 33 U U U U<|Zhu 34 U U U U<|Zhu 35 U U U U<|Zhu 36 U U U U<|Zhu 37 U U U U ?_;refine Zht 38 U (ypf U U)<|Zht 39 U (ym U)<|Zhu 40 U U U U<|Zhu 41 U U U U<|Zhu 42 U U U U<|Zhu 43 U U U U<|Zhu 44 U U U U<|Zhu 45 U U U U<|Zhu 46 U U U U<|Zhu 47 U U U U ?_
 refine Zhu 48 U U U U<|Zhu 49 U U U U<|Zht 50 U (ypf U U)<|ZH1 51<|Zok (H1 (h:=U) ..) [] U U U<|Dl<|Zp1 ?_;rotate_left
 ·refine Zhg 36 U U (lkn U (dT h31)) (yai (i:=i) Tryz.underlying163 U (congrArg (fun x=>some (Value.int .i64 x)) hi) (by omega)) ?_;refine Zhg 37 U U (lkn U (dT h31)) (yd 2 U U (XY d _ (i:=i) (by omega)))<|Zht 38 U (Ax U (dT h31) U)<|Zht 39 U (ym U)<|Rr 40 U U U (fun h43=>?_) (fun h43=>?_)
  refine Zhg 40 U U (lkn U h43) (yf 1 U)<|Zhg 41 U U (lkn U h43) (yd 0 U U U)<|Zhg 42 U U (lkn U h43) (ym U)<|Zhg 43 U U (lkn U h43) (yn U)<|Zhg 44 U U (lkn U h43) (yf 1 U)<|Zhg 45 U U (lkn U h43) (yd 1 U U U)<|Zhg 46 U U (lkn U h43) (yn U)<|Zhg 47 U U (lkn U h43) (yf 6 U)<|Zhg 48 U U (lkn U h43) (yd 2 U U U)<|Zhg 49 U U (lkn U h43) (yne U U) ?_;refine Zht 50 U (Ax U h43 U)<|ZH1 51<|Zok (W8 ..) [] U U U<|⟨?_,?_⟩
  refine fun a=>Zqh 0 rfl<|Zhn (by kernel_rfl)<|Znx<|Zsq ?_;rotate_left;refine fun a=>Dl<|Zp1 ?_;rotate_left;refine Zhu 40 U U (lkn U h43) U<|Zhu 41 U U (lkn U h43) U<|Zhu 42 U U (lkn U h43) U<|Zhu 43 U U (lkn U h43) U<|Zhu 44 U U (lkn U h43) U<|Zhu 45 U U (lkn U h43) U<|Zhu 46 U U (lkn U h43) U<|Zhu 47 U U (lkn U h43) U<|Zhu 48 U U (lkn U h43) U<|Zhu 49 U U (lkn U h43) U ?_;refine Zht 50 U (Ao U h43 U)<|ZH1 51<|Zok (H1 (h:=U) ..) [] U U U<|Dl<|Zp1 ?_;rotate_left
  ·have hb:Ev d m=true:=by rw[Ev,h11,dT h21,dT h31,hg,h43,a];rfl
   have hS:=hS.1 hb;have ew:IntKind.i64.wrap ((d.setS (d.sh.set (i:Int) false)).waits-1)=d.waits-1:=Ar rfl (by omega);refine Zhd [2] U U<|Zht 0 U (ym U)<|Zht 1 U (yn U)<|Zht 2 U (yf 1 U)<|Zht 3 U (yd 1 U U U)<|Zht 4 U (yf 1 U)<|Zht 5 U (yd 0 U U U)<|Zht 6 U (yn U)<|Zht 7 U (yf 1 U) ?_;refine Zht 8 U (yai (i:=i) Tryz.underlying163 U (congrArg (fun x=>some (Value.int .i64 x)) hi) (by omega)) ?_;refine ZH1 9<|Zoe U (es 0 U U U (LH _ _ _ (i:=i) (by omega)) U)<|Ay 1 U<|ZHn<|Zxs<|Za 6 [1,2,8] U U ?_
   refine Zv (yd 0 U U U)<|Zv (Dh U U U)<|Za 2 [8] U U<|Ze (es 0 U U U U U)<|Zw0<|Zns<|Zb 2 U ?_;refine Za 6 [1,2,8,0] U U<|Zn<|Zif U (fun h82=>?_) (fun h82=>?_);refine Zrg<|Zm U ?_;rotate_left;refine Zsk<|Zee ?_;rotate_left
   ·rw[ew] at h82⊢;rw[←hi];have e1:ES bs d m=(FE ((d.setS (d.sh.set m.src false)).setW (d.waits-1)),bs,[Af m 10 d.asks (Ah bs m.line)]):=if_pos (by omega);rw[e1] at hS;refine Zfl [2,0,1,1,1,1] (Ae (d:=(d.setS (d.sh.set m.src false)).setW (d.waits-1)) (out:=out) ok) U ?_;refine Zk (W9 bw bh bi r m.line m.hn ((d.setS (d.sh.set m.src false)).setW (d.waits-1)) out bs (by omega)) [0] U U<|Zq<|Znl<|Zee<|Zre .n hS [0] 1 U U U U
   ·rw[ew] at h82⊢;rw[←hi];have e1:ES bs d m=((d.setS (d.sh.set m.src false)).setW (d.waits-1),bs,[]):=if_neg (by omega);rw[e1] at hS;refine Zfx [2,0,1,1,1,1] (Ae (d:=(d.setS (d.sh.set m.src false)).setW (d.waits-1)) (out:=out) ok) U ?_;rw[←List.append_nil out];refine Zre .n hS [0] 1 U U U U
  ·refine Zfx [1,1,1,1,1,1] (Ae (d:=d) (out:=out) ok) U ?_;refine Zpe (hS.2 (by rw[Ev,a];simp)) [0] 1 U U
  ·refine Zfx [1,1,1,1,1,1] (Ae (d:=d) (out:=out) ok) U ?_;refine Zpe (hS.2 (by rw[Ev,hg,h43];simp)) [0] 1 U U
 ·refine Zfx [1,1,1,1,1,1] (Ae (d:=d) (out:=out) ok) U ?_;refine Zpe (hS.2 (by rw[Ev,dF h31];simp)) [0] 1 U U
 ·refine Zfx [1,1,1,1,1,1] (Ae (d:=d) (out:=out) ok) U ?_;refine Zpe (hS.2 (by rw[Ev,dF h21];simp)) [0] 1 U U
 ·refine Zfx [1,1,1,1,1,1] (Ae (d:=d) (out:=out) ok) U ?_;refine Zpe (hS.2 (by rw[Ev,h11];simp)) [0] 1 U U
section
variable {P:Program} {α:Type} [DecidableEq α] {E:Enc P α} {A:Option Addr} {cap:Nat} {l:List α}
theorem Tj {k:Nat} (hk:k≤l.length):∀h,Sep [.hp (own E A cap l)] h→own E (CQ A cap k E.n) (cap-k) (l.drop k) h:=fun h hs=>by
 obtain⟨h',_,hle',_,_,⟨h1,h2,h3⟩,_⟩:=hs;refine⟨by rw[List.length_drop];omega,by omega,?_⟩;rcases h3 with⟨rfl,h3⟩|⟨g,o,cs,rfl,hg,ho,hr⟩
 ·refine .inl ⟨?_,by omega⟩;unfold CQ;split<;>rfl
 ·right;unfold CQ;split
  ·rename_i hc;have e:l.drop k=[]:=List.drop_eq_nil_of_le (by omega);refine⟨g,o,cs,rfl,hle' _ _ hg,?_,by rw[e];simp⟩;rw[hc,Nat.sub_self,Nat.zero_mul];have:=Nat.zero_le (cap*E.n);omega
  ·have hle:k*E.n≤cap*E.n:=Nat.mul_le_mul_right _ (by omega);refine⟨g,o+k*E.n,cs,by simp[Addr.add_mid],hle' _ _ hg,by rw[Nat.sub_mul];omega,?_⟩;have e:((l.take k).flatMap E.cells).length=k*E.n:=by rw[BQ,List.length_take,Nat.min_eq_left hk]
   have e2:l.flatMap E.cells=(l.take k).flatMap E.cells++(l.drop k).flatMap E.cells:=by rw[←List.flatMap_append,List.take_append_drop]
   have e3:(l.flatMap E.cells).drop (k*E.n)=(l.drop k).flatMap E.cells:=by rw[e2,←e,List.drop_left]
   rw[←e3,←hr,List.drop_take,List.drop_drop,List.length_drop,Nat.sub_mul]
end
theorem Wm (bs:List Int) (d:Ent) (m:Msg):(beginF bs d m).1.q=d.q:=by
 unfold beginF;dsimp only
 repeat' split
 all_goals rfl
theorem Lb (bs:List Int) (d:Ent) (m:Msg):(beginF bs d m).2.2.length≤4:=by
 have h4:=G0 (Ab d m.src).sh m.src 4;unfold beginF;dsimp only
 repeat' split
 all_goals first
  | exact Nat.le_trans (Nat.le_refl 1) (by decide)
  | (simp only[List.length_map];exact h4)
theorem ZD (bw bh bi r:Nat) (n:Int) (m:Msg) (hn:m.line=n) (d:Ent) (out:List Msg) (bs:List Int) (hk:m.kind=1∨m.kind=2∨m.kind=3) (h0:0≤m.src) (h4:m.src<4) (hl:out.length≤900000):Sp Tryz.prog 226 [pt bw,.agg (Al.arr m)] [.hp (Bb bw bh bi r n d out bs)] fun K=>K (.returned (.tuple #[])) [.hp (Bb bw bh bi r n (beginF bs d m).1 (out++(beginF bs d m).2.2) (beginF bs d m).2.1)]:=by subst hn;exact ZB bw bh bi r m d out bs hk h0 h4 hl
def Ent.fre (d:Ent):Ent:=⟨d.o,d.sh,false,0,0,d.waits,false,d.q⟩
def DI (d:Ent) (m:Msg):Bool:=d.busy && d.told && decide (d.asks=m.src)
def drainF:List Msg→List Int→Ent→Ent × List Int × List Msg
 | [],bs,d=>(d.setQ [],bs,[])
 | m::r,bs,d=>if d.busy then(d.setQ (m::r),bs,[])
  else
   let x:=beginF bs (d.setQ r) m
   let y:=drainF r x.2.1 x.1
   (y.1,y.2.1,x.2.2++y.2.2)
theorem Oc {bs:List Int} {d:Ent} (h:d.busy=true):drainF d.q bs d=(d,bs,[]):=by
 obtain⟨o,sh,b,a,k,w,t,q⟩:=d;cases q with
 | nil=>rfl
 | cons m r=>exact if_pos h
theorem QC {bs:List Int} {d:Ent} (h:d.q=[]):drainF d.q bs d=(d,bs,[]):=by obtain⟨o,sh,b,a,k,w,t,q⟩:=d;have h:q=[]:=h;subst h;rfl
theorem Od {bs:List Int} {d:Ent} {m:Msg} {r:List Msg} (h:d.busy=false) (hq:d.q=m::r):drainF d.q bs d=((drainF r (beginF bs (d.setQ r) m).2.1 (beginF bs (d.setQ r) m).1).1,(drainF r (beginF bs (d.setQ r) m).2.1 (beginF bs (d.setQ r) m).1).2.1,(beginF bs (d.setQ r) m).2.2++(drainF r (beginF bs (d.setQ r) m).2.1 (beginF bs (d.setQ r) m).1).2.2):=by rw[hq];exact if_neg (by rw[h];decide)
structure DrI (n:Int) (d:Ent) (bs:List Int) (p:Ent × List Int × List Msg):Prop where
 e1:(drainF d.q bs d.fre).1=(drainF p.1.q p.2.1 p.1).1
 e2:(drainF d.q bs d.fre).2.1=(drainF p.1.q p.2.1 p.1).2.1
 e3:(drainF d.q bs d.fre).2.2=p.2.2++(drainF p.1.q p.2.1 p.1).2.2
 q:∀x∈p.1.q,(x.kind=1∨x.kind=2∨x.kind=3)∧0≤x.src∧x.src<4∧x.line=n
 l:p.2.2.length+4*p.1.q.length≤4*d.q.length
theorem DrI.step {n:Int} {d:Ent} {bs:List Int} {d':Ent} {bs':List Int} {o':List Msg} {m:Msg} {r:List Msg} (h:DrI n d bs (d',bs',o')) (hb:d'.busy=false) (hq:d'.q=m::r):DrI n d bs ((beginF bs' (d'.setQ r) m).1,(beginF bs' (d'.setQ r) m).2.1,o'++(beginF bs' (d'.setQ r) m).2.2):=by
 have hs:=Od (bs:=bs') hb hq;have hbq:(beginF bs' (d'.setQ r) m).1.q=r:=Wm ..;have hbl:=Lb bs' (d'.setQ r) m;obtain⟨e1,e2,e3,q,l⟩:=h;have q':∀x∈d'.q,_:=q;have l':o'.length+4*d'.q.length≤4*d.q.length:=l;rw[hq] at q' l';refine⟨?_,?_,?_,?_,?_⟩
 ·rw[e1];show(drainF d'.q bs' d').1=(drainF (beginF bs' (d'.setQ r) m).1.q (beginF bs' (d'.setQ r) m).2.1 (beginF bs' (d'.setQ r) m).1).1;rw[hs,hbq]
 ·rw[e2];show(drainF d'.q bs' d').2.1=(drainF (beginF bs' (d'.setQ r) m).1.q (beginF bs' (d'.setQ r) m).2.1 (beginF bs' (d'.setQ r) m).1).2.1;rw[hs,hbq]
 ·rw[e3];show o'++(drainF d'.q bs' d').2.2=(o'++(beginF bs' (d'.setQ r) m).2.2)++_;rw[hs,List.append_assoc];rw[hbq]
 ·show∀x∈(beginF bs' (d'.setQ r) m).1.q,_;rw[hbq];exact fun x hx=>q' x (List.mem_cons_of_mem _ hx)
 ·show(o'++(beginF bs' (d'.setQ r) m).2.2).length+4*(beginF bs' (d'.setQ r) m).1.q.length≤_;rw[hbq,List.length_append];simp only[List.length_cons] at l';omega
theorem fM (bw bh bi r:Nat) (n:Int) (m:Msg) (d:Ent) (out:List Msg) (bs:List Int) (hq:∀x∈d.q,(x.kind=1∨x.kind=2∨x.kind=3)∧0≤x.src∧x.src<4∧x.line=n) (hl:out.length+4*d.q.length≤800000):Sp Tryz.prog 195 [pt bw,.agg (Al.arr m)] [.hp (Bb bw bh bi r n d out bs)] fun K=>
  (DI d m=true→K (.returned (.tuple #[])) [.hp (Bb bw bh bi r n (drainF d.q bs d.fre).1 (out++(drainF d.q bs d.fre).2.2) (drainF d.q bs d.fre).2.1)])∧(DI d m=false→K (.panicked (P9 220)) [.hp (Bb bw bh bi r n d out bs)]):=by
 refine Zen Tryz.func195 U U U fun e X Φ hS=>Zoc 0 AG U<|fun ok be A cap Aq cq=>?_;refine Zsr<|Ze (A8 U) fun b3=>Zw<|Znq<|Zhd [] U U<|Zht 0 U (ym U)<|Zht 1 U (yn U)<|Zht 2 U (yf 1 U)<|Zht 3 U (yd 1 U U U) ?_;refine Zht 4 U (yn U)<|Zht 5 U (yf 5 U)<|Zht 6 U (yd 2 U U U)<|Zht 7 U (ym U)<|Rr 8 U U U (fun h12=>?_) (fun h12=>?_)
 refine Zhg 8 U U (lkn U h12) (ym U)<|Zhg 9 U U (lkn U h12) (yn U)<|Zhg 10 U U (lkn U h12) (yf 1 U)<|Zhg 11 U U (lkn U h12) (yd 1 U U U)<|Zhg 12 U U (lkn U h12) (yn U)<|Zhg 13 U U (lkn U h12) (yf 9 U)<|Zhg 14 U U (lkn U h12) (yd 2 U U U)<|Zht 15 U (Ax U h12 U)<|Zht 16 U (ym U)<|Rr 17 U U U (fun h21=>?_) (fun h21=>?_)
 refine Zhg 17 U U (lkn U h21) (ym U)<|Zhg 18 U U (lkn U h21) (yn U)<|Zhg 19 U U (lkn U h21) (yf 1 U)<|Zhg 20 U U (lkn U h21) (yd 1 U U U)<|Zhg 21 U U (lkn U h21) (yn U)<|Zhg 22 U U (lkn U h21) (yf 6 U)<|Zhg 23 U U (lkn U h21) (yd 2 U U U)<|Zhg 24 U U (lkn U h21) (yf 1 U)<|Zhg 25 U U (lkn U h21) (yd 0 U U U)<|Zhg 26 U U (lkn U h21) (yeq U U) ?_;refine Zht 27 U (Ax U h21 U)<|ZH1 28<|Zok (W8 ..) [] U U U<|⟨?_,?_⟩
 refine fun a=>Zqh 0 rfl<|Zhn (by kernel_rfl)<|Znx<|Zsq ?_;rotate_left;refine fun a=>Dl<|Zp1 ?_;rotate_left;refine Zhu 17 U U (lkn U h21) U<|Zhu 18 U U (lkn U h21) U<|Zhu 19 U U (lkn U h21) U<|Zhu 20 U U (lkn U h21) U<|Zhu 21 U U (lkn U h21) U<|Zhu 22 U U (lkn U h21) U<|Zhu 23 U U (lkn U h21) U<|Zhu 24 U U (lkn U h21) U<|Zhu 25 U U (lkn U h21) U<|Zhu 26 U U (lkn U h21) U ?_;refine Zht 27 U (Ao U h21 U)<|ZH1 28<|Zok (H1 (h:=U) ..) [] U U U<|Dl<|Zp1 ?_;rotate_left
 refine Zhu 8 U U (lkn U h12) U<|Zhu 9 U U (lkn U h12) U<|Zhu 10 U U (lkn U h12) U<|Zhu 11 U U (lkn U h12) U<|Zhu 12 U U (lkn U h12) U<|Zhu 13 U U (lkn U h12) U<|Zhu 14 U U (lkn U h12) U<|Zht 15 U (Ao U h12 U)<|Zht 16 U (ym U)<|Zhu 17 U U U U ?_;refine Zhu 18 U U U U<|Zhu 19 U U U U<|Zhu 20 U U U U<|Zhu 21 U U U U<|Zhu 22 U U U U<|Zhu 23 U U U U<|Zhu 24 U U U U<|Zhu 25 U U U U<|Zhu 26 U U U U<|Zht 27 U (ypf U U) ?_;refine ZH1 28<|Zok (H1 (h:=U) ..) [] U U U<|Dl<|Zp1 ?_;rotate_left
 ·refine Zhd [2] U U<|Zht 0 U (ym U)<|Zht 1 U (yn U)<|Zht 2 U (yf 1 U)<|Zht 3 U (yd 1 U U U)<|Zht 4 U (ym U)<|Zht 5 U (yn U)<|Zht 6 U (yf 1 U)<|Zht 7 U (yd 1 U U U)<|Zht 8 U (ym U) ?_;refine Zht 9 U (yn U)<|Zht 10 U (yf 1 U)<|Zht 11 U (yd 1 U U U)<|Zht 12 U (ym U)<|Zht 13 U (yn U)<|Zht 14 U (yf 1 U)<|Zht 15 U (yd 1 U U U)<|Zht 16 U (yn U)<|Zht 17 U (yf 5 U)<|ZH1 18<|Zoe U (es 0 U U U U U)<|Ay 1 U ?_
  refine Zht 19 U (yn U)<|Zht 20 U (yf 6 U)<|ZH1 21<|Zoe U (es 0 U U U U U)<|Ay 1 U<|Zht 22 U (yn U)<|Zht 23 U (yf 7 U)<|ZH1 24<|Zoe U (es 0 U U U U U)<|Ay 1 U<|Zht 25 U (yn U)<|Zht 26 U (yf 9 U)<|ZH1 27<|Zoe U (es 0 U U U U U)<|Ay 1 U<|ZHn ?_;refine Znx<|Zbl ?_;have hb:DI d m=true:=by rw[DI,h12,h21,a];rfl
  have hS:=hS.1 hb;refine Zfc [2,0,1,1,1,1] (Ae (d:=d.fre) (out:=out) ok) U ?_;rw[←List.append_nil out];refine Zlq (ι:={ p:Ent × List Int × List Msg // DrI n d bs p }) (fun p=>[(0,pt bw)]) (fun p=>[.hp (Bb bw bh bi r n p.1.1 (out++p.1.2.2) p.1.2.1)]) (fun p=>p.1.1.q.length) ⟨(d.fre,bs,[]),U,U,U,hq,by show 0+_≤_;rw[Nat.zero_add];exact Nat.le_refl _⟩ ⟨U,trivial⟩ [0] U fun p=>Zoc 0 AG U<|fun ok' be' A' cap' Aq' cq'=>?_;obtain⟨⟨⟨eo,es_,eb,ea,ek,ew,et,eq⟩,bs',o'⟩,hI⟩:=p;cases eb with
  | true=>
   refine Zsq<|Zsr<|Za 8 [1,0,5,1] U U ?_;refine Zb 10 U ?_;refine Zv (ypf U U)<|Zn<|Zcf U<|Zex<|Zxt<|Zxt<|Zxx<|Zee ?_;have hd:=Oc (bs:=bs') (d:=⟨eo,es_,true,ea,ek,ew,et,eq⟩) rfl;refine Zfx [0,0,0,0,0,0] (Ae (d:=⟨eo,es_,true,ea,ek,ew,et,eq⟩) (out:=out++o') ok') U ?_;rw[hI.e1,hI.e2,hI.e3] at hS;dsimp only at hS;rw[hd,List.append_nil] at hS;refine Zre .n hS [0] 1 U U U U
  | false=>
   cases eq with
   | nil=>
    refine Zsq<|Zsr<|Za 8 [1,0,5,1] U U ?_;refine Za 5 [1,0] U U<|Zg U U ?_;refine Za 3 [10,1] U U<|Zg U U<|Zv (Aw ⟨_,Tryz.underlying112⟩ U)<|Zb 2 U ?_;refine Zn<|Zcf U<|Zex<|Zxt<|Zxt<|Zxx<|Zee ?_;have hd:=QC (bs:=bs') (d:=⟨eo,es_,false,ea,ek,ew,et,[]⟩) rfl;refine Zfx [0,0,0,0,0,0] (Ae (d:=⟨eo,es_,false,ea,ek,ew,et,[]⟩) (out:=out++o') ok') U ?_;rw[hI.e1,hI.e2,hI.e3] at hS;dsimp only at hS;rw[hd,List.append_nil] at hS;refine Zre .n hS [0] 1 U U U U
   | cons m' q'=>
    have hx:(m'::q')[0]? = some m':=rfl;have hI':=hI.step rfl rfl;have hl':o'.length+4*(m'::q').length≤4*d.q.length:=hI.l;have hlo:(out++o').length≤900000:=by rw[List.length_append];omega
    obtain⟨hk',h0',h4',hln'⟩:=hI.q m' (.head _);have hd1:1≤(m'::q').length:=Nat.succ_le_succ (Nat.zero_le q'.length);refine Zsq<|Zsr<|Za 8 [1,0,5,1] U U ?_;refine Za 5 [1,0] U U<|Zg U U ?_;refine Za 3 [10,1] U U<|Zg U U<|Zv (Aw ⟨_,Tryz.underlying112⟩ U)<|Zb 2 U ?_;refine Zn<|Zif U (fun h76=>?_) (fun h76=>?_);refine Zkn<|Zbl<|Zsr<|Za 6 [1,0,10] U U ?_
    refine Zv (yd 1 U U U)<|Zv (yea (j:=0) 3 own.rd U U U (by first|assumption|omega) U Tryz.underlying112 U)<|Zv (yel 3 own.rd U (by assumption) U U U)<|Ze (eal Iy) fun b4=>Zw<|Ze (esw 0 (m:=20) U U U U U (Enc.len ..) (Enc.allL ..))<|Zw0<|Znq ?_;rotate_left;refine Zex<|Zxt<|Zxt<|Zxx<|Zee ?_;rotate_left
    ·refine Zhd [2] U U<|Zht 0 U (ym U)<|Zht 1 U (yn U)<|Zht 2 U (yf 1 U)<|Zht 3 U (yd 1 U U U)<|Zht 4 U (ym U)<|Zht 5 U (yn U)<|Zht 6 U (yf 1 U)<|Zht 7 U (yd 1 U U U)<|Zht 8 U (yn U) ?_;refine Zht 9 U (yf 10 U)<|ZH1 10<|Zov U (yd 0 U U U) ?_;refine Zht 11 U (Wh (j:=1) 20 Tryz.underlying112 U U hd1)<|Zht 12 U (yn U)<|Zht 13 U (yf 10 U)<|ZH1 14<|Zoe U (es 0 U U U U U)<|Ay 1 U<|ZHn<|Znx<|Zrg<|Zm U<|Zv (ydw 1 (m:=20) U U (Enc.len ..)) ?_;refine Zfl (p:=own Al (CQ Aq' cq' 1 20) (cq'-1) q') [4] (Tj (k:=1) (l:=m'::q') hd1) U ?_
     refine Zfl [3,1,2,0,1,1] (Ae (d:=⟨eo,es_,false,ea,ek,ew,et,q'⟩) (out:=out++o') (bs:=bs') ok') U ?_;refine Zk (ZD bw bh bi r n m' hln' ⟨eo,es_,false,ea,ek,ew,et,q'⟩ (out++o') bs' hk' h0' h4' hlo) [0] U U<|Zq<|Znl<|Zxn ?_;rw[List.append_assoc];have hm:(beginF bs' ((⟨eo,es_,false,ea,ek,ew,et,m'::q'⟩:Ent).setQ q') m').1.q.length<(m'::q').length:=by rw[Wm];exact Nat.lt_succ_self _
     refine Zlr ⟨(_,_,_),hI'⟩ hm ⟨U,trivial⟩ [0] 1 U U
    ·exact absurd (show(0:Int)<(((m'::q').length:Nat):Int) by omega) h76
 ·refine Zfx [1,1,1,1,1,1] (Ae (d:=d) (out:=out) ok) U ?_;refine Zpe (hS.2 (by rw[DI,a];simp)) [0] 1 U U
 ·refine Zfx [1,1,1,1,1,1] (Ae (d:=d) (out:=out) ok) U ?_;refine Zpe (hS.2 (by rw[DI,h21];simp)) [0] 1 U U
 ·refine Zfx [1,1,1,1,1,1] (Ae (d:=d) (out:=out) ok) U ?_;refine Zpe (hS.2 (by rw[DI,h12];simp)) [0] 1 U U
def putH (h:HD) (m:Msg) (x:Ent × List Int × List Msg):HD × List Msg × Int:=(⟨x.2.1,h.E.set m.line.toNat x.1⟩,x.2.2,0)
def takeH (h:HD) (m:Msg):HD × List Msg × Int:=
 if chk m≠0∨m.dst≠4 then(h,[],2)
 else if(h.E.length:Int)≤m.line then(h,[],4)
 else if m.kind=11 then(if DG (Aa h.E m.line.toNat) m=true then putH h m (C2 h.bs (Aa h.E m.line.toNat) m) else(h,[],220))
 else if m.kind=12 then(if Ev (Aa h.E m.line.toNat) m=true then putH h m (ES h.bs (Aa h.E m.line.toNat) m) else(h,[],220))
 else if m.kind=13 then(if DI (Aa h.E m.line.toNat) m=true then putH h m (drainF (Aa h.E m.line.toNat).q h.bs (Aa h.E m.line.toNat).fre) else(h,[],220))
 else putH h m (DM h.bs (Aa h.E m.line.toNat) m)
section
variable {k:Nat} {n:Int} {d:Ent} {bs:List Int} {m:Msg}
theorem EW.leave (h:EW k n d) (r:Int):EW k n (Ab d r):=⟨h.a,h.w,h.q,h.l⟩
theorem EW.own (h:EW k n d) (r:Int):EW k n (Cr d r):=⟨h.a,h.w,h.q,h.l⟩
theorem EW.busy (h:EW k n d) (hm:IP n m) (w:Int) (t:Bool) (hw:w≤4):EW k n (AU d m w t):=⟨⟨hm.s0,hm.s4⟩,hw,h.q,h.l⟩
theorem EW.setS (h:EW k n d) (s:Sh):EW k n (d.setS s):=⟨h.a,h.w,h.q,h.l⟩
theorem EW.setT (h:EW k n d) (s:Bool):EW k n (d.setT s):=⟨h.a,h.w,h.q,h.l⟩
theorem EW.setW (h:EW k n d) (w:Int) (hw:w≤4):EW k n (d.setW w):=⟨h.a,hw,h.q,h.l⟩
theorem EW.fre (h:EW k n d):EW k n d.fre:=⟨by show(0:Int)≤0∧(0:Int)<4;decide,h.w,h.q,h.l⟩
theorem EW.begin (h:EW k n d) (hm:IP n m):EW k n (beginF bs d m).1:=by
 have h4:(othersF (Ab d m.src).sh m.src).length≤4:=G0 ..;have hl:=h.leave m.src;unfold beginF;dsimp only
 repeat' split
 ·exact hl
 ·exact hl
 ·exact hl.busy hm 1 false (by decide)
 ·exact(hl.own _).busy hm 0 true (by decide)
 ·exact hl.busy hm ((othersF (Ab d m.src).sh m.src).length:Int) false (by omega)
 ·exact(hl.own _).busy hm 0 true (by decide)
 ·exact(hl.setS _).busy hm 0 true (by decide)
theorem EW.qq (h:EW k n d) {q:List Msg} {k':Nat} (hq:∀x∈q,IP n x) (hl:q.length≤k'):EW k' n (d.setQ q):=⟨h.a,h.w,hq,hl⟩
theorem EW.drain:∀(q:List Msg) (bs:List Int) (d:Ent),EW k n d→(∀x∈q,IP n x)→q.length≤k→EW k n (drainF q bs d).1
 | [],bs,d,h,hq,hl=>h.qq hq hl
 | m::r,bs,d,h,hq,hl=>by
  have hr:∀x∈r,IP n x:=fun x hx=>hq x (.tail _ hx);have hrl:r.length≤k:=by simp only[List.length_cons] at hl;omega
  cases hb:d.busy with
  | true=>
   rw[show drainF (m::r) bs d=(d.setQ (m::r),bs,[]) from if_pos hb];exact h.qq hq hl
  | false=>
   rw[show drainF (m::r) bs d=_ from if_neg (by rw[hb];decide)];exact EW.drain r _ _ ((h.qq hr hrl).begin (hq m (.head _))) hr hrl
theorem EW.req (h:EW k n d) (hm:IP n m):EW (k+1) n (DM bs d m).1:=by
 unfold DM;split
 ·refine h.qq (fun x hx=>?_) (by rw[List.length_append];have:=h.l;simp;omega);rcases List.mem_append.1 hx with hx|hx
  ·exact h.q x hx
  ·rw[List.mem_singleton] at hx;subst hx;exact hm
 ·exact(h.begin hm).mono (Nat.le_succ k)
theorem EW.back (h:EW k n d):EW k n (C2 bs d m).1:=by
 unfold C2;dsimp only;split
 ·exact((h.setW 0 (by decide)).own _).setT _
 ·exact(((h.setW 0 (by decide)).own _).setS _).setT _
theorem EW.ack (h:EW k n d):EW k n (ES bs d m).1:=by
 have:=h.w;unfold ES;dsimp only;split
 ·exact(((h.setS _).setW _ (by omega)).own _).setT _
 ·exact(h.setS _).setW _ (by omega)
theorem KX (hn:Byt bs n) (hm:m.line=n) (b:B16):(setLn bs m.line b).length=bs.length:=by subst hm;exact LW hn.n1 b.2.1
theorem RH (hn:Byt bs n) (hm:m.line=n):(beginF bs d m).2.1.length=bs.length∧Byt (beginF bs d m).2.1 n:=by
 unfold beginF;dsimp only
 repeat' split
 all_goals first
  | exact⟨rfl,hn⟩
  | exact⟨KX hn hm _,hn.set _ hm _⟩
theorem OI (hn:Byt bs n) (hm:m.line=n):(DM bs d m).2.1.length=bs.length:=by
 unfold DM;split
 ·rfl
 ·exact(RH hn hm).1
theorem UE (hn:Byt bs n) (hm:m.line=n):(C2 bs d m).2.1.length=bs.length:=by unfold C2;dsimp only;split<;>exact KX hn hm _
theorem WR:(ES bs d m).2.1=bs:=by unfold ES;dsimp only;split<;>rfl
theorem ME:∀(q:List Msg) (bs:List Int) (d:Ent),Byt bs n→(∀x∈q,IP n x)→(drainF q bs d).2.1.length=bs.length
 | [],bs,d,hn,hq=>rfl
 | m::r,bs,d,hn,hq=>by
  cases hb:d.busy with
  | true=>rw[show drainF (m::r) bs d=(d.setQ (m::r),bs,[]) from if_pos hb]
  | false=>
   rw[show drainF (m::r) bs d=_ from if_neg (by rw[hb];decide)];obtain⟨b1,b2⟩:=RH (d:=d.setQ r) hn (hq m (.head _)).l;exact(ME r _ _ b2 fun x hx=>hq x (.tail _ hx)).trans b1
end
theorem HOk.put {k:Nat} {h:HD} {n:Nat} {bs:List Int} {d:Ent} (a:HOk k h) (hn:n<h.E.length) (hb:Byt bs (n:Int)) (hl:bs.length=h.bs.length) (hd:EW (k+1) (n:Int) d):HOk (k+1) ⟨bs,h.E.set n d⟩:=
 ⟨hb.r,hb.l,by show 0<bs.length;rw[hl];exact a.p,by show(h.E.set n d).length=bs.length/16;rw[List.length_set,hl];exact a.e,fun i hi=>by
  show EW (k+1) (i:Int) (Aa (h.E.set n d) i);have hi:i<h.E.length:=by rw[show(⟨bs,h.E.set n d⟩:HD).E=h.E.set n d from rfl,List.length_set] at hi;exact hi
  unfold Aa;by_cases e:n=i
  ·subst e;rw[List.getD_eq_getElem?_getD,List.getElem?_set_self hn];exact hd
  ·rw[List.getD_eq_getElem?_getD,List.getElem?_set_ne e,←List.getD_eq_getElem?_getD]
   exact(a.w i hi).mono (Nat.le_succ k)⟩
theorem KOk.put {E:List Ent} {es:List (Nat × Nat)} {n b:Nat} {d:Ent} (hn:n<E.length) (h:KOk E es) (hno:n ∉ CR es):KOk (E.set n d) ((n,b)::es):=
 ⟨List.nodup_cons.2 ⟨hno,h.nd⟩,fun i hi=>by
  rw[List.length_set];rcases List.mem_cons.1 hi with e|hi
  ·rw[e];exact hn
  ·exact h.lt i hi,fun i hi=>by
  have e:n≠i:=fun e=>hi (by rw[e];exact .head _);have:=h.no i fun x=>hi (.tail _ x);unfold Aa at *;rw[List.getD_eq_getElem?_getD,List.getElem?_set_ne e,←List.getD_eq_getElem?_getD]
  exact this⟩
theorem SW {a c:List (Nat × Nat)} {n b b':Nat}:CR (a++(n,b)::c)=CR (a++(n,b')::c):=by simp[CR]
theorem KOk.upd {E:List Ent} {a c:List (Nat × Nat)} {n b b':Nat} {d:Ent} (h:KOk E (a++(n,b)::c)):KOk (E.set n d) (a++(n,b')::c):=by have e:=SW (a:=a) (c:=c) (n:=n) (b:=b) (b':=b');refine⟨e ▸ h.nd,fun i hi=>by rw[List.length_set];exact h.lt i (e ▸ hi),fun i hi=>?_⟩;have hne:n≠i:=fun x=>hi (by rw[←x];simp[CR]);have:=h.no i (e ▸ hi);unfold Aa at *;rw[List.getD_eq_getElem?_getD,List.getElem?_set_ne hne,←List.getD_eq_getElem?_getD];exact this
theorem Jl {E:List Ent} {n:Nat} {d:Ent} {es:List (Nat × Nat)} {h:Hl} (hno:n ∉ CR es) (hs:C5 E es h):C5 (E.set n d) es h:=GS hs fun x hx g hg=>by
 have hne:n≠x.1:=fun e=>hno (by rw[e];exact List.mem_map_of_mem hx);have:Aa (E.set n d) x.1=Aa E x.1:=by unfold Aa;rw[List.getD_eq_getElem?_getD,List.getElem?_set_ne hne,←List.getD_eq_getElem?_getD]
 show Il x.2 (Aa (E.set n d) x.1) g;rw[this];exact hg
theorem Pw {E:List Ent} {n:Nat} {d:Ent} (hn:n<E.length):Aa (E.set n d) n=d:=by unfold Aa;rw[List.getD_eq_getElem?_getD,List.getElem?_set_self hn];rfl
theorem Sm {E:List Ent} {n b:Nat} {d:Ent} {es:List (Nat × Nat)} (hn:n<E.length) (hno:n ∉ CR es):∀h,Sep [.hp (Il b d),.hp (C5 E es)] h→C5 (E.set n d) ((n,b)::es) h:=fun h hs=>by show Sep [.hp (Il b (Aa (E.set n d) n)),.hp (C5 (E.set n d) es)] h;rw[Pw hn];exact hs.mapTl fun _ hh=>hh.hd (q := .hp (C5 (E.set n d) es)) fun _ hq=>Jl hno hq
theorem So {E:List Ent} {n b b':Nat} {d:Ent} {a c:List (Nat × Nat)} (hn:n<E.length) (ha:n ∉ CR a) (hc:n ∉ CR c):∀h,Sep [.hp (Il b' d),.hp (C5 E (a++(n,b)::c))] h→C5 (E.set n d) (a++(n,b')::c) h:=fun h hs=>by
 refine GT a ?_;show Sep [.hp (Il b' (Aa (E.set n d) n)),.hp (C5 (E.set n d) (a++c))] h;rw[Pw hn];have hno:n ∉ CR (a++c):=by simp only[CR,List.map_append,List.mem_append];exact fun x=>x.elim ha hc
 exact hs.mapTl fun _ hh=>hh.hd (q := .hp (C5 (E.set n d) (a++c))) fun _ hq=>Jl hno (PO (QN hq))
def home0 (bs:List Int):HD:=⟨bs,List.replicate (bs.length/16) ent0⟩
theorem Pv (n k:Nat):Aa (List.replicate n ent0) k=ent0:=by
 unfold Aa;rw[List.getD_eq_getElem?_getD];cases h:(List.replicate n ent0)[k]? with
 | none=>rfl
 | some x=>
  have:=List.mem_of_getElem? h;rw[List.mem_replicate] at this;exact this.2
theorem Ll (n:Int):EW 0 n ent0:=⟨by decide,by decide,fun m h=>(by cases h),Nat.le_refl 0⟩
theorem SQ {bs:List Int} (h0:0<bs.length) (hl:bs.length≤1048576) (hr:∀a∈bs,0≤a∧a<256):HOk 0 (home0 bs):=⟨hr,hl,h0,List.length_replicate,fun n _=>by rw[show(home0 bs).E=List.replicate (bs.length/16) ent0 from rfl,Pv];exact Ll _⟩
theorem jG (bs:List Int):KOk (home0 bs).E []:=⟨List.nodup_nil,fun n h=>(by cases h),fun n _=>Pv _ _⟩
theorem JB {β:Type} {F:β→HP} {L:List Ck} {h:Hl} (hs:Sep L h):Sep (.hp (B6 F [])::L) h:=⟨fun _=>none,h,fun _ _ e=>(by cases e),Le.refl h,fun _ => .inl rfl,trivial,hs⟩
theorem c71 (b:Nat) (bs:List Int) (h0:0<bs.length) (hl:bs.length≤1048576) (hr:∀a∈bs,0≤a∧a<256):Sp Tryz.prog 71 [pt b] [.hp (Bx b bs)] fun K=>∀b',K (.returned (.tuple #[pt b',.int .i64 0])) [.hp (Ci 0 b' (home0 bs)),.hp (Bx b bs)]:=by
 refine Zen Tryz.func71 U U U fun e X Φ hS=>Zsr<|Zb 2 U<|Zns<|Zm U<|Zk (c63 ..) [0] U U<|fun b'=>?_;refine Zq<|Zy U<|Aj<|Zm U<|Zv (D6 U U U)<|Zn ?_;refine Zcf U<|Zks<|Zm U<|Ze (emk .u32) fun r10=>Zw<|Zv (yb jK U)<|Ze (ebx U) fun b12=>Zw<|Zb 2 U ?_;refine Znr ?_;refine Zix (fun _ hs=>JB (F:=fun x:Nat × Nat=>Il x.2 (Aa (home0 bs).E x.1)) hs) ?_;refine Zfx [1,3,1,0] (Bs (k:=0) (b:=b12) (h:=home0 bs) (es:=[]) (SQ h0 hl hr) (jG bs)) U<|Zre (.t U (.t U .n)) (hS _) [0,0] 0 U U U U
theorem c25 (k b:Nat) (h:HD):Sp Tryz.prog 25 [pt b] [.hp (Ci k b h)] fun K=>∀b',K (.returned (pt b')) [.hp (Bx b' h.bs),.hp (Ci k b h)]:=by refine Zen Tryz.func25 U U U fun e X Φ hS=>Zsr<|Zy U<|Aj<|Zm U<|Zk (c62 ..) [0] U U<|Zq ?_;refine Zn<|Zcf U<|Zks<|Za 3 [0] U U ?_;refine Zol 0 Js U<|fun ok bi r kE hK=>Zv (yd 0 U U U) ?_;have hp:=ok.p;have hl:=ok.l;refine Zk (c63 bi h.bs hp hl) [1] U U<|fun b'=>Zq<|Zy U<|Znr ?_;refine Zfx [2,0,1,1] (Bs (k:=k) (h:=h) ok hK) U<|Zre (.t U .n) (hS _) [1,0] 0 U U U U
def CT (T:Nat):Enc Tryz.prog Nat where
 T:=T
 n:=1
 cells:=fun b=>[pt b]
 len:=fun _=>rfl
 one:=fun x v hv=>by rw[List.mem_singleton] at hv;subst hv;rfl
 pos:=by decide
structure MD where
 C:List Cor
 D:List CD
 most:Int
 q:List Msg
 h:HD
structure MD.Ok (k:Nat) (m:MD):Prop where
 n0:0<m.C.length
 n1:m.C.length≤4
 d:m.D.length=m.C.length
 m0:1≤m.most
 m1:m.most≤1024
 q:(m.q.length:Int)≤m.most
abbrev BB (k:Nat) (l:List (Nat × Cor)):HP:=B6 (fun x:Nat × Cor=>Br k x.1 x.2) l
abbrev C3 (l:List (Nat × CD)):HP:=B6 (fun x:Nat × CD=>AK x.1 x.2) l
def BJ (k b:Nat) (m:MD):HP:=fun g=>m.Ok k∧∃A cap B capb bn bh cb kb,(cb.length=m.C.length∧kb.length=m.C.length)∧Sep [.blk b 108 [.slice A cb.length cap,.slice B kb.length capb,pt bn,pt bh],.hp (own (CT 74) A cap cb),.hp (own (CT 80) B capb kb),.hp (BB k (cb.zip m.C)),.hp (C3 (kb.zip m.D)),.hp (DT bn m.most m.q),.hp (Ci k bh m.h)] g
theorem Cs {k b:Nat} {m:MD}:Op_ (BJ k b m) fun K=>m.Ok k→∀A cap B capb bn bh cb kb,(cb.length=m.C.length∧kb.length=m.C.length)→K [.blk b 108 [.slice A cb.length cap,.slice B kb.length capb,pt bn,pt bh],.hp (own (CT 74) A cap cb),.hp (own (CT 80) B capb kb),.hp (BB k (cb.zip m.C)),.hp (C3 (kb.zip m.D)),.hp (DT bn m.most m.q),.hp (Ci k bh m.h)] := .mk fun G K g hh=>by obtain⟨ok,A,cap,B,capb,bn,bh,cb,kb,hl,hs⟩:=hh;exact⟨_,K ok A cap B capb bn bh cb kb hl,hs⟩
theorem AM {k b cap capb bn bh:Nat} {m:MD} {A B:Option Addr} {cb kb:List Nat} (ok:m.Ok k) (hl:cb.length=m.C.length∧kb.length=m.C.length):∀g,Sep [.blk b 108 [.slice A cb.length cap,.slice B kb.length capb,pt bn,pt bh],.hp (own (CT 74) A cap cb),.hp (own (CT 80) B capb kb),.hp (BB k (cb.zip m.C)),.hp (C3 (kb.zip m.D)),.hp (DT bn m.most m.q),.hp (Ci k bh m.h)] g→BJ k b m g:=fun _ hs=>⟨ok,A,cap,B,capb,bn,bh,cb,kb,hl,hs⟩
theorem FJ {k i:Nat} {l:List (Nat × Cor)} {x:Nat × Cor} (e:l[i]? = some x):Op_ (BB k l) fun K=>K [.hp (Br k x.1 x.2),.hp (BB k (l.eraseIdx i))] := .mk fun G K h hh=>⟨_,K,PN e hh⟩
theorem Ea {i:Nat} {l:List (Nat × CD)} {x:Nat × CD} (e:l[i]? = some x):Op_ (C3 l) fun K=>K [.hp (AK x.1 x.2),.hp (C3 (l.eraseIdx i))] := .mk fun G K h hh=>⟨_,K,PN e hh⟩
theorem Mj {α β:Type}:∀{a:List α} {l:List β} {i:Nat} {x:α} {y:β},a[i]? = some x→(a.zip l).set i (x,y)=a.zip (l.set i y)
 | [],_,_,_,_,e=>by simp at e
 | _::_,[],_,_,_,_=>by simp
 | z::a,w::l,0,x,y,e=>by simp at e;subst e;rfl
 | z::a,w::l,i+1,x,y,e=>by simp at e;simp[Mj (a:=a) (l:=l) (i:=i) (y:=y) e]
theorem De {α β:Type} {a:List α} {l:List β} {i:Nat} {x:α} {y:β} (h1:a[i]? = some x) (h2:l[i]? = some y):(a.zip l)[i]? = some (x,y):=List.getElem?_zip_eq_some.2 ⟨h1,h2⟩
theorem EV {k i b:Nat} {cb:List Nat} {l:List Cor} {c:Cor} (e:cb[i]? = some b) (hi:i<(cb.zip l).length):∀h,Sep [.hp (Br k b c),.hp (BB k ((cb.zip l).eraseIdx i))] h→BB k (cb.zip (l.set i c)) h:=fun h hs=>by rw[←Mj e];exact Nc (F:=fun x:Nat × Cor=>Br k x.1 x.2) (y:=(b,c)) hi hs
theorem ET {i b:Nat} {cb:List Nat} {l:List CD} {c:CD} (e:cb[i]? = some b) (hi:i<(cb.zip l).length):∀h,Sep [.hp (AK b c),.hp (C3 ((cb.zip l).eraseIdx i))] h→C3 (cb.zip (l.set i c)) h:=fun h hs=>by rw[←Mj e];exact Nc (F:=fun x:Nat × CD=>AK x.1 x.2) (y:=(b,c)) hi hs
theorem DV {k k':Nat} {l:List (Nat × Cor)} (hk:k≤k'):∀g,Sep [.hp (BB k l)] g→BB k' l g:=fun g hs=>GS (PO hs) fun x _ h hc=>R6 hk h (BN hc)
theorem MD.Ok.mono {k k':Nat} {m:MD} (a:m.Ok k):m.Ok k':=⟨a.n0,a.n1,a.d,a.m0,a.m1,a.q⟩
theorem c38 (x:Cho):Sp Tryz.prog 38 [.agg (N8.arr x)] [] fun K=>K (.returned (.bool (decide (1≤x.kind) && decide (x.kind≤5)))) []:=by
 refine Zen Tryz.func38 U U U fun e X Φ hS=>Zsr<|Ze (A8 U) fun b1=>Zw<|Zy U<|Zns<|Za 3 [0,0] U U ?_;refine Zm U<|Zgs U U (fun h6=>?_) (fun h6=>?_);refine Zg' U U (dT h6)<|Zv (yf 0 U)<|Zg' U U (dT h6)<|Zv (yd 0 U U U)<|Zg' U U (dT h6)<|Zv (yle U U)<|Zv (Ax U (dT h6) U)<|Zy U<|Zn ?_;refine Zrt<|Zre (.t U .n) hS [] 1 ?_ U U U;rotate_left;refine Zu' U U (dF h6) U<|Zu' U U (dF h6) U<|Zu' U U (dF h6) U<|Zv (Ao U (dF h6) U)<|Zy U<|Znr<|Zre (.t U .n) hS [] 1 ?_ U U U;rotate_left
 all_goals simp[pk, *]
theorem c51 (pick:Int) (n:Nat) (h0:0<n) (hn:n≤1048576) (hp : -9223372036854775808≤pick∧pick≤9223372036854775807):Sp Tryz.prog 51 [.int .i64 pick,.int .i64 (n:Int)] [] fun K=>K (.returned (.int .i64 ((Am pick n:Nat):Int))) []:=by
 obtain⟨p1,p2,p3,p4⟩:=G2 pick h0;have e1:IntKind.i64.wrap (pick.tmod n+n)=pick.tmod n+n:=Ar rfl (by omega);refine Zen Tryz.func51 U U U fun e X Φ hS=>Zsr<|Zy U<|Zns<|Zb 2 U<|Zv (Cc U U (by omega) U)<|Zm U ?_;refine Zv (Ac U U (Ar U (by omega)))<|Zm U<|Zv (Cc U U (by omega) U)<|Zy U<|Znr<|Zre (.t U .n) hS [] 0 ?_ U U U
 all_goals (rw[p1];rfl)
def Bf (most:Int):List Msg→List Msg→List Msg
 | q,[]=>q
 | q,m::r=>Bf most (Fb most q m).1 r
theorem TM {most:Int} {q:List Msg} {m:Msg} (h:(q.length:Int)≤most):((Fb most q m).1.length:Int)≤most:=by
 unfold Fb
 repeat' split
 ·exact h
 ·exact h
 ·simp;omega
theorem Dv {most:Int}:∀{l q:List Msg},(q.length:Int)≤most→((Bf most q l).length:Int)≤most
 | [],_,h=>h
 | m::l,q,h=>Dv (l:=l) (TM h)
theorem KW {most:Int}:∀{l q:List Msg} {m:Msg},Bf most q (l++[m])=(Fb most (Bf most q l) m).1
 | [],_,_=>rfl
 | x::l,q,m=>KW (l:=l)
theorem N6 (b bn:Nat) (v0 v1 v3:Value) (A:Option Addr) (cap:Nat) (l:List Msg) (most:Int) (q:List Msg) (h1:1≤most) (h2:most≤1024) (hq:(q.length:Int)≤most) (hll:l.length≤1048576):Sp Tryz.prog 139 [pt b,.slice A l.length cap] [.blk b 108 [v0,v1,pt bn,v3],.hp (own Al A cap l),.hp (DT bn most q)] fun K=>K (.returned (.tuple #[])) [.blk b 108 [v0,v1,pt bn,v3],.hp (own Al A cap l),.hp (DT bn most (Bf most q l))]:=by
 refine Zen Tryz.func139 U U U fun e X Φ hS=>?_;refine Zsr<|Zm U<|Zv (Aw ⟨_,Tryz.underlying112⟩ U)<|Zm U<|Znb ?_;refine Zlq (ι:={ i:Nat // i≤l.length }) (fun i=>[(8,.int .i64 (i.1:Int)),(7,.int .i64 (l.length:Int)),(6,.slice A l.length cap),(0,pt b)]) (fun i=>[.hp (DT bn most (Bf most q (l.take i.1)))]) (fun i=>l.length-i.1) ⟨0,by omega⟩ ⟨U,U,U,U,trivial⟩ [2] U fun i=>Zsr<|Zv (ylt U U)<|Znq<|Zif U (fun h9=>?_) (fun h9=>?_)
 refine Zkn<|Zsq<|Zbl<|Zsr<|Zv (yea 2 own.rd U U U (by first|assumption|omega) U Tryz.underlying112 U)<|Zv (yel 2 own.rd U (gE (by first|assumption|omega)) U U U)<|Ze (eal Iy) fun b5=>Zw<|Ze (esw 0 (m:=20) U U U U U (Enc.len ..) (Enc.allL ..))<|Zw0<|Znl ?_;refine Znx ?_;rotate_left;refine Zex<|Zxt<|Zxt<|Zxx<|Zee ?_;rotate_left
 ·have hlt:i.1<l.length:=by omega
  have hx:=gE (l:=l) (k:=i.1) hlt;have hn:most≠0:=by omega
  have hs:=Dv (l:=l.take i.1) hq;have hs2:(Bf most q (l.take i.1)).length≤1048576:=by omega
  refine Zhd [1] U U<|Zht 0 U (ym U)<|Zht 1 U (yn U)<|Zht 2 U (yf 2 U)<|Zht 3 U (yd 1 U U U)<|Zht 4 U (ydw 0 (m:=20) U U (Enc.len ..))<|ZH1 5<|Zok (fH ..) [0] U U U<|Zqh 1 U<|ZHn<|Zxn ?_;refine Znx<|Zrg<|Zv (Ac U U (Ar U (by omega)))<|Zm U<|Znl ?_;rw[←KW,Co hx];refine Zlr ⟨i.1+1,by omega⟩ (by show l.length-(i.1+1)<l.length-i.1;omega) ⟨U,U,U,U,trivial⟩ [0] 1 U U
 ·have hi:=i.2;rw[List.take_of_length_le (by omega)];refine Zre .n hS [1,1,0] 0 U U U U
theorem Nj (d:CD) (x:Ln):(outF d x).2.1.length≤1:=by
 unfold outF;split
 ·exact Nat.zero_le 1
 ·split
  ·exact Nat.zero_le 1
  ·exact Nat.le_refl 1
theorem UD (d:CD) (line:Int) (h:U32 line) (wr:Bool) (pick:Int):(askF d line h wr pick).2.1.length≤2:=by
 unfold askF;split
 ·exact Nat.zero_le 2
 ·split
  ·exact Nat.zero_le 2
  ·split
   ·exact Nat.le_succ 1
   ·rename_i x _;split
    ·have:=Nj d x;simp;omega
    ·exact Nat.zero_le 2
theorem Mo (d:CD) (a:Acc) (wr:Bool) (pick:Int):(Hn d a wr pick).2.1.length≤2:=by
 unfold Hn;split
 ·exact UD ..
 ·exact Nat.zero_le 2
theorem QE (d:CD) (pick:Int):(evictF d pick).2.length≤1:=by
 unfold evictF;split
 ·exact Nat.zero_le 1
 ·exact Nj ..
theorem E1 (c:Cor) (d:CD) (w:Int) (x:Ans) (o:Int):(DS (Bm c d w x o).2.2).length≤2:=Nat.zero_le 2
theorem HH (c:Cor) (d:CD) (a:Acc) (wr:Bool) (pick:Int):(DS (FX c d a wr pick).2.2).length≤2:=Mo d a wr pick
theorem Gl (c:Cor) (d:CD):(DS (Bi c d []).2.2).length≤2:=Nat.zero_le 2
theorem Uw (c:Cor) (d:CD) (w pick:Int) (a:Acc):(DS (DA c d w pick a).2.2).length≤2:=by
 unfold DA
 repeat' split
 ·unfold GR Kl;repeat' split
  all_goals first|exact Gl .. | exact E1 .. | exact HH ..
 ·unfold FA;repeat' split
  all_goals first|exact Gl .. | exact E1 .. | exact HH ..
 ·unfold lrR;repeat' split
  all_goals first|exact Gl .. | exact E1 .. | exact HH ..
 ·unfold scR;repeat' split
  all_goals first|exact Gl .. | exact E1 .. | exact HH ..
 ·unfold La;repeat' split
  all_goals first|exact Gl .. | exact E1 .. | exact HH ..
 ·unfold Fi;repeat' split
  all_goals first|exact Gl .. | exact E1 .. | exact HH ..
 ·exact E1 ..
theorem SK (c:Cor) (d:CD) (pick:Int):(goF c d pick).2.2.2.length≤2:=by
 unfold goF
 repeat' split
 ·exact Nat.zero_le 2
 ·exact Nat.zero_le 2
 ·exact Uw ..
theorem Kp (c:Cor) (d:CD) (pick:Int):(DS (Av c d pick).2.2).length≤2:=by
 unfold Av
 repeat' split
 ·exact Gl ..
 ·exact Mo ..
 ·exact Nat.zero_le 2
theorem TZ (d:CD) (m:Msg):(takeF d m).2.1.length≤1:=by
 unfold takeF
 repeat' split
 all_goals first|exact Nat.zero_le 1|exact Nat.le_refl 1
theorem Ps:∀(q:List Msg) (bs:List Int) (d:Ent),(drainF q bs d).2.2.length≤4*q.length
 | [],_,_=>Nat.zero_le _
 | m::r,bs,d=>by
  cases hb:d.busy with
  | true=>
   rw[show drainF (m::r) bs d=(d.setQ (m::r),bs,[]) from if_pos hb];exact Nat.zero_le _
  | false=>
   rw[show drainF (m::r) bs d=_ from if_neg (by rw[hb];decide)];have h1:=Lb bs (d.setQ r) m;have h2:=Ps r (beginF bs (d.setQ r) m).2.1 (beginF bs (d.setQ r) m).1;simp only[List.length_append,List.length_cons];omega
theorem Q9 {k:Nat} {h:HD} (ok:HOk k h) (m:Msg):(takeH h m).2.1.length≤4*k+4:=by
 unfold takeH;split
 ·exact Nat.zero_le _
 ·split
  ·exact Nat.zero_le _
  ·rename_i h1;have hn:=m.hn;have hq:=(ok.w m.line.toNat (by omega)).l;have h3:=Ps (Aa h.E m.line.toNat).q h.bs (Aa h.E m.line.toNat).fre;have h4:=Lb h.bs (Aa h.E m.line.toNat) m
   repeat' split
   ·show(C2 _ _ _).2.2.length≤_;unfold C2;dsimp only;split<;>(show 1≤_;omega)
   ·exact Nat.zero_le _
   ·show(ES _ _ _).2.2.length≤_;unfold ES;dsimp only;split
    ·show 1≤_;omega
    ·exact Nat.zero_le _
   ·exact Nat.zero_le _
   ·show(drainF _ _ _).2.2.length≤_;omega
   ·exact Nat.zero_le _
   ·show(DM _ _ _).2.2.length≤_;unfold DM;split
    ·exact Nat.zero_le _
    ·omega
theorem Pr {q:List Msg} {k:Nat} {x:Msg} (h:q[k]? = some x):(Ej q k).length+1=q.length:=by have:=(List.getElem?_eq_some_iff.1 h).1;unfold Ej;simp;omega
theorem XS {b:Nat} {most:Int} {q q':List Msg} (e:q=q'):∀h,Sep [.hp (DT b most q)] h→DT b most q' h:=fun h hs=>by subst e;obtain⟨h1,_,hle,_,_,⟨A,cap,hp⟩,_⟩:=hs;exact⟨A,cap,hp.up hle⟩
theorem SP {k b:Nat} {h:HD}:Op_ (Ci k b h) fun K=>HOk k h→K [.hp (Ci k b h)] := .mk fun G K g hh=>⟨_,K hh.1,BN hh⟩
def MD.put (m:MD) (i:Nat) (c:Cor) (d:CD) (q:List Msg):MD:=⟨m.C.set i c,m.D.set i d,m.most,q,m.h⟩
theorem MD.Ok.put {k k':Nat} {m:MD} (a:m.Ok k) (i:Nat) (c:Cor) (d:CD) {q:List Msg} (hq:(q.length:Int)≤m.most):(m.put i c d q).Ok k':=⟨by show 0<(m.C.set i c).length;rw[List.length_set];exact a.n0,by show(m.C.set i c).length≤4;rw[List.length_set];exact a.n1,by show(m.D.set i d).length=(m.C.set i c).length;rw[List.length_set,List.length_set];exact a.d,a.m0,a.m1,hq⟩
theorem G1 {k b cap capb bn bh i:Nat} {m:MD} {c:Cor} {d:CD} {q:List Msg} {A B:Option Addr} {cb kb:List Nat} (ok:(m.put i c d q).Ok k) (hl1:cb.length=m.C.length) (hl2:kb.length=m.C.length):∀g,Sep [.blk b 108 [.slice A cb.length cap,.slice B kb.length capb,pt bn,pt bh],.hp (own (CT 74) A cap cb),.hp (own (CT 80) B capb kb),.hp (BB k (cb.zip (m.C.set i c))),.hp (C3 (kb.zip (m.D.set i d))),.hp (DT bn m.most q),.hp (Ci k bh m.h)] g→BJ k b (m.put i c d q) g:=AM (m:=m.put i c d q) ok ⟨hl1.trans List.length_set.symm,hl2.trans List.length_set.symm⟩
def HS (m:MD) (i:Nat):MD:=match m.C[i]? with|some c=>⟨m.C.set i (c.setR none),m.D,m.most,m.q,m.h⟩|none=>m
theorem c96 (k b i:Nat) (pick:Int) (m:MD) (hi:i<m.C.length):Sp Tryz.prog 96 [pt b,.int .i64 (i:Int),.int .i64 pick] [.hp (BJ k b m)] fun K=>K (.returned (.agg (Cg.arr GE))) [.hp (BJ k b (HS m i))]:=by
 refine Zen Tryz.func96 U U U fun e X Φ hS=>Zoc 0 Cs U<|fun ok A cap B capb bn bh cb kb hl=>?_;obtain⟨hl1,hl2⟩:=hl;have hci:=gE (l:=cb) (k:=i) (by omega);have hCi:=gE hi;have hz:=De hci hCi;have hzl:i<(cb.zip m.C).length:=(List.getElem?_eq_some_iff.1 hz).1;have hic:i<cb.length:=by omega
 refine Zoc 3 (FJ hz) U<|Zsr<|Ze (eal z53) fun b6=>Zw<|Zns<|Za 4 [0,3] U U ?_;refine Zm U<|Zv (yea 4 own.rd U U U (by first|assumption|omega) U Tryz.underlying105 U)<|Zv (yec (m:=0) 4 own.rd U (by assumption) U U U)<|Zk (eV ..) [1] U U<|Zq<|Zns<|Zv (yb l53 U)<|Ze (esw 1 (m:=20) U U U U U U U)<|Zw0 ?_;refine Znr ?_;rw[show HS m i=⟨m.C.set i (m.C[i].setR none),m.D,m.most,m.q,m.h⟩ by unfold HS;rw[hCi]] at hS
 have ok':(⟨m.C.set i (m.C[i].setR none),m.D,m.most,m.q,m.h⟩:MD).Ok k:=⟨by rw[List.length_set];exact ok.n0,by rw[List.length_set];exact ok.n1,by rw[List.length_set];exact ok.d,ok.m0,ok.m1,ok.q⟩
 refine Zfx [0,1] (EV (c:=m.C[i].setR none) hci hzl) U ?_;refine Zfx [2,2,2,0,1,1,1] (AM (m:=⟨m.C.set i (m.C[i].setR none),m.D,m.most,m.q,m.h⟩) ok' ⟨hl1.trans List.length_set.symm,hl2.trans List.length_set.symm⟩) U<|Zre (.wh 1 (m:=20) U U U .n) hS [0] 1 U U U U
def goM (m:MD) (i:Nat) (pick:Int):MD × Did:=match m.C[i]?,m.D[i]? with
 | some c,some d=>(m.put i (goF c d pick).1 (goF c d pick).2.1 (Bf m.most m.q (goF c d pick).2.2.2),(goF c d pick).2.2.1)
 | _,_=>(m,GE)
theorem c92 (k b i:Nat) (pick:Int) (m:MD) (hi:i<m.C.length) (hp : -9223372036854775808≤pick∧pick≤9223372036854775807) (hk:k≤1000000):Sp Tryz.prog 92 [pt b,.int .i64 (i:Int),.int .i64 pick] [.hp (BJ k b m),spC] fun K=>K (.returned (.agg (Cg.arr (goM m i pick).2))) [.hp (BJ k b (goM m i pick).1),spC]:=by
 refine Zen Tryz.func92 U U U fun e X Φ hS=>Zoc 0 Cs U<|fun ok A cap B capb bn bh cb kb hl=>?_;obtain⟨hl1,hl2⟩:=hl;have hd:=ok.d;have hci:=gE (l:=cb) (k:=i) (by omega);have hki:=gE (l:=kb) (k:=i) (by omega);have hCi:=gE hi;have hDi:=gE (l:=m.D) (k:=i) (by omega);have hz:=De hci hCi;have hz2:=De hki hDi;have hzl:i<(cb.zip m.C).length:=(List.getElem?_eq_some_iff.1 hz).1;have hzl2:i<(kb.zip m.D).length:=(List.getElem?_eq_some_iff.1 hz2).1;have hic:i<cb.length:=by omega
 have hik:i<kb.length:=by omega
 rw[show goM m i pick=(m.put i (goF m.C[i] m.D[i] pick).1 (goF m.C[i] m.D[i] pick).2.1 (Bf m.most m.q (goF m.C[i] m.D[i] pick).2.2.2),(goF m.C[i] m.D[i] pick).2.2.1) by unfold goM;rw[hCi,hDi]] at hS;refine Zoc 3 (FJ hz) U<|Zsr<|Ze (eal z53) fun b6=>Zw<|Znq ?_;refine Zoc 6 (Ea hz2) U ?_;refine Zhd [0,2,8] U U<|Zht 0 U (ym U)<|Zht 1 U (yn U)<|Zht 2 U (yf 0 U)<|Zht 3 U (yd 3 U U U)<|Zht 4 U (ym U)<|Zht 5 U (yea 4 own.rd U U U (by first|assumption|omega) U Tryz.underlying105 U)<|Zht 6 U (yec (m:=0) 4 own.rd U (by assumption) U U U)<|Zht 7 U (ym U)<|Zht 8 U (yn U) ?_
 refine Zht 9 U (yf 1 U)<|Zht 10 U (yd 3 U U U)<|Zht 11 U (ym U)<|Zht 12 U (yea 5 own.rd U U U (by first|assumption|omega) U Tryz.underlying106 U)<|Zht 13 U (yec (m:=0) 5 own.rd U (by assumption) U U U)<|Zht 14 U (ym U) ?_;have okn:(m.put i (goF m.C[i] m.D[i] pick).1 (goF m.C[i] m.D[i] pick).2.1 (Bf m.most m.q (goF m.C[i] m.D[i] pick).2.2.2)).Ok k:=ok.put i _ _ (Dv ok.q);refine ZH2 15 20 (Zok (Zd cb[i] kb[i] k pick m.C[i] m.D[i] hp hk) [1,0,0] U U U<|fun A' cap'=>Zqh 4 U ?_) (Zoe U (eal z53) fun b7=>Zwh 4 U ?_)
 ·refine Zht 16 U (ym U)<|Zht 17 U (yx U U)<|Zht 18 U (yx U U)<|Zht 19 U (yx U U)<|ZH1 20<|Zoe U (eal z53) fun b7=>Zwh 5 U<|ZH1 21<|Zoe U (esw 0 (m:=20) U U U U U (Enc.len ..) (Enc.allL ..))<|Ay 5 U<|Zht 22 U (ya U)<|Zht 23 U (ya U)<|ZHn<|Znx ?_;refine Zsr<|Zb 2 U ?_;refine Zk (N6 b bn _ _ _ A' cap' (goF m.C[i] m.D[i] pick).2.2.2 m.most m.q ok.m0 ok.m1 ok.q (Nat.le_trans (SK ..) (by decide))) [8,1,9] U U<|Zq<|Zns<|Zv (ydw 3 (m:=20) U U (Enc.len ..))<|Ze (esw 8 (m:=20) U U U U U (Enc.len ..) (Enc.allL ..))<|Zw0<|Znr ?_
  refine Zfx [4,8] (EV (c:=(goF m.C[i] m.D[i] pick).1) hci hzl) U ?_;refine Zfx [5,6] (ET (c:=(goF m.C[i] m.D[i] pick).2.1) hki hzl2) U ?_;refine Zfx [2,7,7,1,0,1,4] (G1 okn hl1 hl2) U<|Zre (.wh 4 (m:=20) U U (Enc.len ..) .n) hS [0,2] 3 U U U U
 ·refine ZH1 15<|Zok (Zd cb[i] kb[i] k pick m.C[i] m.D[i] hp hk) [2,1,1] U U U<|fun A' cap'=>Zqh 5 U<|Zht 16 U (ym U)<|Zht 17 U (yx U U)<|Zht 18 U (yx U U)<|Zht 19 U (yx U U)<|ZH1 21<|Zoe U (esw 4 (m:=20) U U U U U (Enc.len ..) (Enc.allL ..))<|Ay 5 U<|Zht 22 U (ya U)<|Zht 23 U (ya U)<|ZHn<|Znx ?_;refine Zsr<|Zb 2 U ?_;refine Zk (N6 b bn _ _ _ A' cap' (goF m.C[i] m.D[i] pick).2.2.2 m.most m.q ok.m0 ok.m1 ok.q (Nat.le_trans (SK ..) (by decide))) [8,0,9] U U<|Zq<|Zns<|Zv (ydw 6 (m:=20) U U (Enc.len ..))<|Ze (esw 8 (m:=20) U U U U U (Enc.len ..) (Enc.allL ..))<|Zw0<|Znr ?_
  refine Zfx [3,8] (EV (c:=(goF m.C[i] m.D[i] pick).1) hci hzl) U ?_;refine Zfx [4,6] (ET (c:=(goF m.C[i] m.D[i] pick).2.1) hki hzl2) U ?_;refine Zfx [2,7,7,1,0,1,4] (G1 okn hl1 hl2) U<|Zre (.wh 4 (m:=20) U U (Enc.len ..) .n) hS [0,1] 3 U U U U
def MD.putD (m:MD) (i:Nat) (d:CD) (q:List Msg):MD:=⟨m.C,m.D.set i d,m.most,q,m.h⟩
theorem MD.Ok.putD {k k':Nat} {m:MD} (a:m.Ok k) (i:Nat) (d:CD) {q:List Msg} (hq:(q.length:Int)≤m.most):(m.putD i d q).Ok k':=⟨a.n0,a.n1,by show(m.D.set i d).length=m.C.length;rw[List.length_set];exact a.d,a.m0,a.m1,hq⟩
theorem KN {k b cap capb bn bh i:Nat} {m:MD} {d:CD} {q:List Msg} {A B:Option Addr} {cb kb:List Nat} (ok:(m.putD i d q).Ok k) (hl1:cb.length=m.C.length) (hl2:kb.length=m.C.length):∀g,Sep [.blk b 108 [.slice A cb.length cap,.slice B kb.length capb,pt bn,pt bh],.hp (own (CT 74) A cap cb),.hp (own (CT 80) B capb kb),.hp (BB k (cb.zip m.C)),.hp (C3 (kb.zip (m.D.set i d))),.hp (DT bn m.most q),.hp (Ci k bh m.h)] g→BJ k b (m.putD i d q) g:=AM (m:=m.putD i d q) ok ⟨hl1,hl2⟩
def HA (m:MD) (i:Nat) (pick:Int):MD:=match m.D[i]? with
 | some d=>m.putD i (evictF d pick).1 (Bf m.most m.q (evictF d pick).2)
 | none=>m
theorem c95 (k b i:Nat) (pick:Int) (m:MD) (hi:i<m.C.length) (hp : -9223372036854775808≤pick∧pick≤9223372036854775807):Sp Tryz.prog 95 [pt b,.int .i64 (i:Int),.int .i64 pick] [.hp (BJ k b m)] fun K=>K (.returned (.agg (Cg.arr GE))) [.hp (BJ k b (HA m i pick))]:=by
 refine Zen Tryz.func95 U U U fun e X Φ hS=>Zoc 0 Cs U<|fun ok A cap B capb bn bh cb kb hl=>?_;obtain⟨hl1,hl2⟩:=hl;have hd:=ok.d;have hki:=gE (l:=kb) (k:=i) (by omega);have hDi:=gE (l:=m.D) (k:=i) (by omega);have hz2:=De hki hDi;have hzl2:i<(kb.zip m.D).length:=(List.getElem?_eq_some_iff.1 hz2).1;have hik:i<kb.length:=by omega
 have okn:=ok.putD (k':=k) i (evictF m.D[i] pick).1 (Dv (l:=(evictF m.D[i] pick).2) ok.q);rw[show HA m i pick=m.putD i (evictF m.D[i] pick).1 (Bf m.most m.q (evictF m.D[i] pick).2) by unfold HA;rw[hDi]] at hS;refine Zoc 4 (Ea hz2) U<|Zsr<|Ze (eal z53) fun b6=>Zw<|Zns<|Za 4 [1] U U ?_;refine Za 2 [3] U U<|Zv (yea 5 own.rd U U U (by first|assumption|omega) U Tryz.underlying106 U)<|Zv (yec (m:=0) 5 own.rd U (by assumption) U U U)<|Zm U ?_;refine Zk (eU kb[i] m.D[i] pick hp) [1] U U<|fun A_1=>fun cap_1=>Zq ?_
 refine Zk (N6 b bn _ _ _ A_1 cap_1 (evictF m.D[i] pick).2 m.most m.q ok.m0 ok.m1 ok.q (Nat.le_trans (QE ..) (by decide))) [4,0,6] U U<|Zq<|Zns<|Zv (yb l53 U)<|Ze (esw 4 (m:=20) U U U U U U U)<|Zw0<|Znr ?_;refine Zfx [3,4] (ET (c:=(evictF m.D[i] pick).1) hki hzl2) U ?_;refine Zfx [1,4,4,4,0,1,2] (KN okn hl1 hl2) U<|Zre (.wh 2 (m:=20) U U U .n) hS [0] 2 U U U U
theorem Q2 (p q:Value):Ct Tryz.prog 191 [p,q] .returning .returning [] []:=by refine Ml Tryz.func191 U U U U U U (fun _ _=>U) (.inl ⟨U,U,U⟩) fun e X c₀ cs=>?_;refine Zbl<|Zsr<|Zv (yii Tryz.underlying20 U)<|Zn<|Zct U<|Zrg<|Zy U<|Znl<|Zxn ?_;refine ZeS [] 0 (fun w' hp=>⟨U,U,hp⟩) U U
theorem X3 (b b' t t':Nat) (c:Int) (v v':Value):Ct Tryz.prog 191 [pt b,pt b'] (pa (.iface 308 (.agg #[.int .i64 c])) false) (pa (.iface 308 (.agg #[.int .i64 c])) true) [.blk b t [v],.blk b' t' [v']] [.blk b t [.slice none 0 0],.blk b' t' [.int .i64 c]]:=by
 refine Ml Tryz.func191 U U U U U U (fun _ _=>U) (.inr ⟨U,U⟩) fun e X c₀ cs=>?_;refine Zbl<|Zsr<|Zv (yin Tryz.underlying20 U)<|Zn<|Zcf U<|Zsr<|Zv (yta Tryz.underlying308 U U)<|Zb 2 U ?_;refine Zn<|Zct U<|Zsr<|Ze (eal lK) fun b3=>Zw<|Ze (esw 0 (m:=1) U U U U U U U)<|Zw0<|Zn ?_;refine Zhd [1,1] U U<|Zht 0 U (yf 0 U)<|Zht 1 U (yd 0 U U U)<|ZH1 2<|Zoe U (es 0 U U U U U)<|Ay 2 U<|ZH1 3<|Zoe U (es 1 U U U U U)<|Ay 2 U<|ZHn<|Zxn ?_;refine ZeS [0,0] 1 (fun w' hp=>⟨U,U,hp⟩) U U
theorem Cl {k b:Nat} {h:HD}:∀g,Sep [.hp (Ci k b h)] g→Ci (k+1) b h g:=fun g hs=>by obtain⟨h1,h2,hle,_,_,⟨ok,bi,r,es,hk,hp⟩,_⟩:=hs;exact⟨ok.mono (Nat.le_succ k),bi,r,es,hk,hp.up hle⟩
theorem Wn (k b n:Nat) (i:Int) (hi:i=(n:Int)) (h:HD) (hn:n<h.E.length) (hk2:k≤1000000):Sp Tryz.prog 151 [pt b,.int .u32 i] [.hp (Ci k b h)] fun K=>∀A cap,K (.returned (.agg ((Aa h.E n).cs (.slice A (Aa h.E n).q.length cap)).toArray)) [.hp (own Al A cap (Aa h.E n).q),.hp (Ci k b h)]:=by subst hi;exact eX k b n h hn hk2
theorem Ez {E:List Ent} {es:List (Nat × Nat)} {n:Nat} {i:Int} (hi:i=(n:Int)) (hn:n<E.length) (hk:KOk E es) (b':Nat) (d:Ent):∃es',ups i (pt b') (mp es)=mp es'∧KOk (E.set n d) es'∧∀h,Sep [.hp (Il b' d),.hp (C5 E es)] h→C5 (E.set n d) es' h:=by
 subst hi;by_cases hin:n∈CR es
 ·obtain⟨a,b,c,rfl,ha,hc⟩:=Gj hk.nd hin;exact⟨a++(n,b')::c,V5 ha hc,hk.upd,So hn ha hc⟩
 ·exact⟨(n,b')::es,YC hin,hk.put hn hin,Sm hn hin⟩
theorem eS (k b:Nat) (h:HD) (m:Msg) (hk2:k≤1000):Sp Tryz.prog 142 [pt b,.agg (Al.arr m)] [.hp (Ci k b h)] fun K=>∀A cap,K (.returned (.tuple #[.slice A (takeH h m).2.1.length cap,.int .i64 (takeH h m).2.2])) [.hp (own Al A cap (takeH h m).2.1),.hp (Ci (k+1) b (takeH h m).1)]:=by
 have hn:=m.hn;refine Rq Tryz.func142 U U U fun e X Φ hS=>?_;refine Zsr<|Ze (A8 U) fun b3=>Zw<|Ze (eal dQ) fun b4=>Zw<|Ze (eal z34) fun b5=>Zw<|Znq<|Zbl<|Zsr<|Zm U ?_;refine Zk (c62 ..) [3] U U<|Zq<|Zy U<|Zn<|Zcf U<|Zsr<|Zv (ydw 3 (m:=20) U U (Enc.len ..))<|Zk (W5 ..) [] U U<|Zq ?_;refine Zb 2 U<|Zgs U U (fun h15=>?_) (fun h15=>?_);refine Zu' U U (dT h15) U<|Zu' U U (dT h15) U<|Zu' U U (dT h15) U<|Zv (Ax U (dT h15) U)<|Zy U<|Zn<|Zct U<|Zsr<|Ze (es 2 U U U U U)<|Zw0 ?_;refine Ze (es 1 U U U U U)<|Zw0<|Znr<|Zr2<|Zr1 ?_;rotate_left
 refine Zg' U U (dF h15)<|Zv (yf 2 U)<|Zg' U U (dF h15)<|Zv (yd 3 U U U)<|Zg' U U (dF h15)<|Zv (yne U U)<|Zv (Ao U (dF h15) U)<|Zy U<|Zn ?_;refine Zif U (fun h11=>?_) (fun h11=>?_);refine Zsr<|Ze (es 2 U U U U U)<|Zw0<|Ze (es 1 U U U U U)<|Zw0<|Znr<|Zr2<|Zr1 ?_;rotate_left;refine Zsq ?_;rotate_left
 ·rw[show takeH h m=(h,[],2) from if_pos (.inl h15)] at hS;refine Zfx [0] (Cl (k:=k) (b:=b) (h:=h)) U ?_;refine Zix (fun _ hs=>Ag (E:=Al) hs)<|NY (.c 3 U U U (.c 2 U U U .n)) (hS _ _) [0,0] 3 U U U U
 ·rw[show takeH h m=(h,[],2) from if_pos (.inr h11)] at hS;refine Zfx [0] (Cl (k:=k) (b:=b) (h:=h)) U ?_;refine Zix (fun _ hs=>Ag (E:=Al) hs)<|NY (.c 3 U U U (.c 2 U U U .n)) (hS _ _) [0,0] 3 U U U U
 ·refine Zhd [0] U U<|Zht 0 U (yf 3 U)<|Zht 1 U (yd 2 U U U)<|Zht 2 U (ycv Tryz.underlying40 Tryz.underlying2 U (Ar U (by omega)))<|Zht 3 U (ym U)<|ZH1 4<|Zok (Zh ..) [0] U U U<|Zqh 1 U<|Zht 5 U (yge U U)<|Zht 6 U (ya U)<|ZHn ?_;refine Znx<|Zif U (fun h20=>?_) (fun h20=>?_);refine Zsr<|Ze (es 2 U U U U U)<|Zw0<|Ze (es 1 U U U U U)<|Zw0<|Znr<|Zr2<|Zr1 ?_;rotate_left;refine Zsk<|Zxn<|Zxs<|Zv (yfn U U)<|Zdv U U<|Zns<|Zm U ?_;refine Za 2 [3,3] U U ?_;rotate_left
  ·rw[show takeH h m=(h,[],4) from(if_neg (fun x=>x.elim h15 h11)).trans (if_pos h20)] at hS;refine Zfx [0] (Cl (k:=k) (b:=b) (h:=h)) U ?_;refine Zix (fun _ hs=>Ag (E:=Al) hs)<|NY (.c 3 U U U (.c 2 U U U .n)) (hS _ _) [0,0] 3 U U U U
  ·have hj:m.line=((m.line.toNat:Nat):Int):=by omega
   have he:m.line.toNat<h.E.length:=by omega
   have hk0:k≤1000000:=by omega
   have h0:¬(chk m≠0∨m.dst≠4):=fun x=>x.elim h15 h11;have hT:takeH h m=_:=(if_neg h0).trans (if_neg h20)
   have hkd:(m.kind=1∨m.kind=2∨m.kind=3∨m.kind=11∨m.kind=12∨m.kind=13)∧0≤m.src∧m.src<4:=by
    have hd:m.dst=4:=by simpa using h11
    have hc:Cd m=true:=by
     cases hg:Cd m with
     | true=>rfl
     | false=>exact absurd (show chk m≠0 by simp[chk,hg]) h15
    simp[Cd,CH,Ei,B2,hd] at hc;omega
   obtain⟨hkd,s0,s4⟩:=hkd;refine Zk (Wn k b m.line.toNat m.line hj h he hk0) [0] U U<|fun A=>fun cap=>Zq<|Ze (eal Rj) fun b6=>Zw<|Ze (esw 0 (m:=11) U U U U U U U)<|Zw0<|Zns<|Zm U ?_;refine Za 2 [3,5] U U<|Zv (yb jR U)<|Ze (ebx U) fun b36=>Zw<|Zy U<|Zns<|Ze (emk .i64) fun r37=>Zw<|Zm U ?_;refine Zv (yfn U U)<|Ze (ein 0 U U U U U U Tryz.underlying315 Tryz.underlying114)<|Zw0<|Zm U<|Zv (yfn U U)<|Ze (ein 0 U U U U U U Tryz.underlying315 Tryz.underlying114)<|Zw0<|Zm U<|Zv (yfn U U)<|Ze (ein 0 U U U U U U Tryz.underlying315 Tryz.underlying114)<|Zw0<|Zm U<|Zv (yfn U U) ?_
   refine Ze (ein 0 U U U U U U Tryz.underlying315 Tryz.underlying114)<|Zw0<|Zm U<|Zv (yfn U U)<|Ze (ein 0 U U U U U U Tryz.underlying315 Tryz.underlying114)<|Zw0<|Zm U<|Zv (yfn U U)<|Ze (ein 0 U U U U U U Tryz.underlying315 Tryz.underlying114)<|Zw0<|Za 3 [0,7] U U ?_;refine Zol 4 Js U<|fun ok bi r kE hK=>?_;have okB:Byt h.bs m.line:=⟨ok.r,ok.l,hn.1,by rw[←ok.e];exact he⟩
   refine Zim (fun _ hs=>Ag (E:=Al) hs) ?_;refine Zfl [6,6,0,5,0,0] (Ae (bw:=b36) (be:=b6) (bh:=b) (bi:=bi) (r:=r) (bs:=h.bs) (n:=m.line) (d:=Aa h.E m.line.toNat) (out:=[]) okB) U ?_;have hew:=ok.w _ he;have hq:=hew.l;rcases hkd with hk|hk|hk|hk|hk|hk
   ·have hr:IP (m.line.toNat:Int) m:=⟨by omega,s0,s4,hj⟩
    rw[hk];refine Zv (ylk 3 U U U Tryz.underlying315 Tryz.underlying114 Hf)<|Zv (ydw 6 (m:=20) U U (Enc.len ..)) ?_;refine Zkv (W6 b36 b bi r m (Aa h.E m.line.toNat) [] h.bs (by omega) s0 s4 (by decide) (by omega)) [0] U U U U<|Zq<|Znq ?_;have f1:EW (k+1) (m.line.toNat:Int) (DM h.bs (Aa h.E m.line.toNat) m).1:=hew.req hr;have f2:(DM h.bs (Aa h.E m.line.toNat) m).2.1.length=h.bs.length:=OI okB rfl;have f3:takeH h m=putH h m (DM h.bs (Aa h.E m.line.toNat) m):=hT.trans ((if_neg (by omega)).trans ((if_neg (by omega)).trans (if_neg (by omega))));rw[f3] at hS
    dsimp only[putH] at hS;generalize DM h.bs (Aa h.E m.line.toNat) m=x at f1 f2 hS⊢;refine Zoc 0 AG U<|fun okx be' A' cap' Aq' cq'=>?_;obtain⟨kE',e1,e2,e3⟩:=Ez hj he hK be' x.1;have okN:HOk (k+1) ⟨x.2.1,h.E.set m.line.toNat x.1⟩:=ok.put he (by rw[←hj];exact okx) f2 f1;refine Zhd [6] U U<|Zht 0 U (ym U)<|Zht 1 U (yn U)<|Zht 2 U (yf 1 U)<|Zht 3 U (yd 4 U U U)<|Zht 4 U (yf 3 U)<|Zht 5 U (yd 10 U U U)<|Zht 6 U (ym U)<|Zht 7 U (yn U)<|Zht 8 U (yf 1 U) ?_
    refine Zht 9 U (yd 0 U U U)<|ZH1 10<|Zoe U (emu 0 U U U U U Tryz.underlying156 Tryz.underlying40)<|Ay 1 U<|ZHn<|Zxs<|Za 5 [0,0,1] U U ?_;refine Ze (es 10 U U U U U)<|Zw0<|Ze (es 9 U U U U U)<|Zw0<|Znr ?_;rw[e1,List.nil_append];refine Zfx [2,3] (DX (b:=be') (d:=x.1)) U ?_;refine Zfx [0,5] e3 U ?_;refine Zfx [4,4,1,0] (Bs (k:=k+1) (h:=⟨x.2.1,h.E.set m.line.toNat x.1⟩) okN e2) U ?_;refine ZrD (Q2 _ _) [] U (.c 5 U U U (.c 4 U U U .n)) (hS _ _) [2,0] 5 U U U
   ·have hr:IP (m.line.toNat:Int) m:=⟨by omega,s0,s4,hj⟩
    rw[hk];refine Zv (ylk 3 U U U Tryz.underlying315 Tryz.underlying114 Hf)<|Zv (ydw 6 (m:=20) U U (Enc.len ..)) ?_;refine Zkv (W6 b36 b bi r m (Aa h.E m.line.toNat) [] h.bs (by omega) s0 s4 (by decide) (by omega)) [0] U U U U<|Zq<|Znq ?_;have f1:EW (k+1) (m.line.toNat:Int) (DM h.bs (Aa h.E m.line.toNat) m).1:=hew.req hr;have f2:(DM h.bs (Aa h.E m.line.toNat) m).2.1.length=h.bs.length:=OI okB rfl;have f3:takeH h m=putH h m (DM h.bs (Aa h.E m.line.toNat) m):=hT.trans ((if_neg (by omega)).trans ((if_neg (by omega)).trans (if_neg (by omega))));rw[f3] at hS
    dsimp only[putH] at hS;generalize DM h.bs (Aa h.E m.line.toNat) m=x at f1 f2 hS⊢;refine Zoc 0 AG U<|fun okx be' A' cap' Aq' cq'=>?_;obtain⟨kE',e1,e2,e3⟩:=Ez hj he hK be' x.1;have okN:HOk (k+1) ⟨x.2.1,h.E.set m.line.toNat x.1⟩:=ok.put he (by rw[←hj];exact okx) f2 f1;refine Zhd [6] U U<|Zht 0 U (ym U)<|Zht 1 U (yn U)<|Zht 2 U (yf 1 U)<|Zht 3 U (yd 4 U U U)<|Zht 4 U (yf 3 U)<|Zht 5 U (yd 10 U U U)<|Zht 6 U (ym U)<|Zht 7 U (yn U)<|Zht 8 U (yf 1 U) ?_
    refine Zht 9 U (yd 0 U U U)<|ZH1 10<|Zoe U (emu 0 U U U U U Tryz.underlying156 Tryz.underlying40)<|Ay 1 U<|ZHn<|Zxs<|Za 5 [0,0,1] U U ?_;refine Ze (es 10 U U U U U)<|Zw0<|Ze (es 9 U U U U U)<|Zw0<|Znr ?_;rw[e1,List.nil_append];refine Zfx [2,3] (DX (b:=be') (d:=x.1)) U ?_;refine Zfx [0,5] e3 U ?_;refine Zfx [4,4,1,0] (Bs (k:=k+1) (h:=⟨x.2.1,h.E.set m.line.toNat x.1⟩) okN e2) U ?_;refine ZrD (Q2 _ _) [] U (.c 5 U U U (.c 4 U U U .n)) (hS _ _) [2,0] 5 U U U
   ·have hr:IP (m.line.toNat:Int) m:=⟨by omega,s0,s4,hj⟩
    rw[hk];refine Zv (ylk 3 U U U Tryz.underlying315 Tryz.underlying114 Hf)<|Zv (ydw 6 (m:=20) U U (Enc.len ..)) ?_;refine Zkv (W6 b36 b bi r m (Aa h.E m.line.toNat) [] h.bs (by omega) s0 s4 (by decide) (by omega)) [0] U U U U<|Zq<|Znq ?_;have f1:EW (k+1) (m.line.toNat:Int) (DM h.bs (Aa h.E m.line.toNat) m).1:=hew.req hr;have f2:(DM h.bs (Aa h.E m.line.toNat) m).2.1.length=h.bs.length:=OI okB rfl;have f3:takeH h m=putH h m (DM h.bs (Aa h.E m.line.toNat) m):=hT.trans ((if_neg (by omega)).trans ((if_neg (by omega)).trans (if_neg (by omega))));rw[f3] at hS
    dsimp only[putH] at hS;generalize DM h.bs (Aa h.E m.line.toNat) m=x at f1 f2 hS⊢;refine Zoc 0 AG U<|fun okx be' A' cap' Aq' cq'=>?_;obtain⟨kE',e1,e2,e3⟩:=Ez hj he hK be' x.1;have okN:HOk (k+1) ⟨x.2.1,h.E.set m.line.toNat x.1⟩:=ok.put he (by rw[←hj];exact okx) f2 f1;refine Zhd [6] U U<|Zht 0 U (ym U)<|Zht 1 U (yn U)<|Zht 2 U (yf 1 U)<|Zht 3 U (yd 4 U U U)<|Zht 4 U (yf 3 U)<|Zht 5 U (yd 10 U U U)<|Zht 6 U (ym U)<|Zht 7 U (yn U)<|Zht 8 U (yf 1 U) ?_
    refine Zht 9 U (yd 0 U U U)<|ZH1 10<|Zoe U (emu 0 U U U U U Tryz.underlying156 Tryz.underlying40)<|Ay 1 U<|ZHn<|Zxs<|Za 5 [0,0,1] U U ?_;refine Ze (es 10 U U U U U)<|Zw0<|Ze (es 9 U U U U U)<|Zw0<|Znr ?_;rw[e1,List.nil_append];refine Zfx [2,3] (DX (b:=be') (d:=x.1)) U ?_;refine Zfx [0,5] e3 U ?_;refine Zfx [4,4,1,0] (Bs (k:=k+1) (h:=⟨x.2.1,h.E.set m.line.toNat x.1⟩) okN e2) U ?_;refine ZrD (Q2 _ _) [] U (.c 5 U U U (.c 4 U U U .n)) (hS _ _) [2,0] 5 U U U
   ·rw[hk];refine Zv (ylk 3 U U U Tryz.underlying315 Tryz.underlying114 Hf)<|Zv (ydw 6 (m:=20) U U (Enc.len ..)) ?_;refine Zkv (fK b36 b bi r m (Aa h.E m.line.toNat) [] h.bs s0 s4 hew.a (by decide)) [0] U U U U<|⟨?_,?_⟩
    refine fun a=>Zq<|Znl<|Znx<|Zsq ?_;rotate_left;refine fun a=>Zqp<|Zp1 ?_;rotate_left
    ·skip
     have f1:EW (k+1) (m.line.toNat:Int) (C2 h.bs (Aa h.E m.line.toNat) m).1:=hew.back.mono (Nat.le_succ k);have f2:(C2 h.bs (Aa h.E m.line.toNat) m).2.1.length=h.bs.length:=UE okB rfl;have f3:takeH h m=putH h m (C2 h.bs (Aa h.E m.line.toNat) m):=hT.trans ((if_pos hk).trans (if_pos a));rw[f3] at hS;dsimp only[putH] at hS;generalize C2 h.bs (Aa h.E m.line.toNat) m=x at f1 f2 hS⊢;refine Zoc 0 AG U<|fun okx be' A' cap' Aq' cq'=>?_;obtain⟨kE',e1,e2,e3⟩:=Ez hj he hK be' x.1
     have okN:HOk (k+1) ⟨x.2.1,h.E.set m.line.toNat x.1⟩:=ok.put he (by rw[←hj];exact okx) f2 f1;refine Zhd [6] U U<|Zht 0 U (ym U)<|Zht 1 U (yn U)<|Zht 2 U (yf 1 U)<|Zht 3 U (yd 4 U U U)<|Zht 4 U (yf 3 U)<|Zht 5 U (yd 10 U U U)<|Zht 6 U (ym U)<|Zht 7 U (yn U)<|Zht 8 U (yf 1 U) ?_;refine Zht 9 U (yd 0 U U U)<|ZH1 10<|Zoe U (emu 0 U U U U U Tryz.underlying156 Tryz.underlying40)<|Ay 1 U<|ZHn<|Zxs<|Za 5 [0,0,1] U U ?_;refine Ze (es 10 U U U U U)<|Zw0<|Ze (es 9 U U U U U)<|Zw0<|Znr ?_;rw[e1,List.nil_append];refine Zfx [2,3] (DX (b:=be') (d:=x.1)) U ?_;refine Zfx [0,5] e3 U ?_
     refine Zfx [4,4,1,0] (Bs (k:=k+1) (h:=⟨x.2.1,h.E.set m.line.toNat x.1⟩) okN e2) U ?_;refine ZrD (Q2 _ _) [] U (.c 5 U U U (.c 4 U U U .n)) (hS _ _) [2,0] 5 U U U
    ·skip
     rw[show takeH h m=(h,[],220) from hT.trans ((if_pos hk).trans (if_neg (by rw[a];decide)))] at hS;refine Zox 0 AG U<|fun okx be' A' cap' Aq' cq'=>?_;refine Zfx [4,4,4,4] (Bs (k:=k) (h:=h) ok hK) U ?_;refine Zfx [0] (Cl (k:=k) (b:=b) (h:=h)) U ?_;refine Zix (fun _ hs=>Ag (E:=Al) hs) ?_;refine ZpD (X3 b4 b5 _ _ _ _ _) [8,7] U (.c 0 U U U (.c 1 U U U .n)) (hS none 0) [2,2] 8 U U U
   ·rw[hk];refine Zv (ylk 3 U U U Tryz.underlying315 Tryz.underlying114 Hf)<|Zv (ydw 6 (m:=20) U U (Enc.len ..)) ?_;refine Zkv (fL b36 b bi r m (Aa h.E m.line.toNat) [] h.bs s0 s4 hew.w (by decide)) [0] U U U U<|⟨?_,?_⟩
    refine fun a=>Zq<|Znl<|Znx<|Zsq ?_;rotate_left;refine fun a=>Zqp<|Zp1 ?_;rotate_left
    ·skip
     have f1:EW (k+1) (m.line.toNat:Int) (ES h.bs (Aa h.E m.line.toNat) m).1:=hew.ack.mono (Nat.le_succ k);have f2:(ES h.bs (Aa h.E m.line.toNat) m).2.1.length=h.bs.length:=by rw[WR]
     have f3:takeH h m=putH h m (ES h.bs (Aa h.E m.line.toNat) m):=hT.trans ((if_neg (by omega)).trans ((if_pos hk).trans (if_pos a)));rw[f3] at hS;dsimp only[putH] at hS;generalize ES h.bs (Aa h.E m.line.toNat) m=x at f1 f2 hS⊢;refine Zoc 0 AG U<|fun okx be' A' cap' Aq' cq'=>?_;obtain⟨kE',e1,e2,e3⟩:=Ez hj he hK be' x.1;have okN:HOk (k+1) ⟨x.2.1,h.E.set m.line.toNat x.1⟩:=ok.put he (by rw[←hj];exact okx) f2 f1
     refine Zhd [6] U U<|Zht 0 U (ym U)<|Zht 1 U (yn U)<|Zht 2 U (yf 1 U)<|Zht 3 U (yd 4 U U U)<|Zht 4 U (yf 3 U)<|Zht 5 U (yd 10 U U U)<|Zht 6 U (ym U)<|Zht 7 U (yn U)<|Zht 8 U (yf 1 U) ?_;refine Zht 9 U (yd 0 U U U)<|ZH1 10<|Zoe U (emu 0 U U U U U Tryz.underlying156 Tryz.underlying40)<|Ay 1 U<|ZHn<|Zxs<|Za 5 [0,0,1] U U ?_;refine Ze (es 10 U U U U U)<|Zw0<|Ze (es 9 U U U U U)<|Zw0<|Znr ?_;rw[e1,List.nil_append];refine Zfx [2,3] (DX (b:=be') (d:=x.1)) U ?_;refine Zfx [0,5] e3 U ?_;refine Zfx [4,4,1,0] (Bs (k:=k+1) (h:=⟨x.2.1,h.E.set m.line.toNat x.1⟩) okN e2) U ?_
     refine ZrD (Q2 _ _) [] U (.c 5 U U U (.c 4 U U U .n)) (hS _ _) [2,0] 5 U U U
    ·skip
     rw[show takeH h m=(h,[],220) from hT.trans ((if_neg (by omega)).trans ((if_pos hk).trans (if_neg (by rw[a];decide))))] at hS;refine Zox 0 AG U<|fun okx be' A' cap' Aq' cq'=>?_;refine Zfx [4,4,4,4] (Bs (k:=k) (h:=h) ok hK) U ?_;refine Zfx [0] (Cl (k:=k) (b:=b) (h:=h)) U ?_;refine Zix (fun _ hs=>Ag (E:=Al) hs) ?_;refine ZpD (X3 b4 b5 _ _ _ _ _) [8,7] U (.c 0 U U U (.c 1 U U U .n)) (hS none 0) [2,2] 8 U U U
   ·rw[hk];refine Zv (ylk 3 U U U Tryz.underlying315 Tryz.underlying114 Hf)<|Zv (ydw 6 (m:=20) U U (Enc.len ..)) ?_;refine Zkv (fM b36 b bi r m.line m (Aa h.E m.line.toNat) [] h.bs (fun x hx=>⟨(hew.q x hx).k,(hew.q x hx).s0,(hew.q x hx).s4,(hew.q x hx).l.trans hj.symm⟩) (by show 0+_≤_;omega)) [0] U U U U<|⟨?_,?_⟩
    refine fun a=>Zq<|Znl<|Znx<|Zsq ?_;rotate_left;refine fun a=>Zqp<|Zp1 ?_;rotate_left
    ·skip
     have f1:EW (k+1) (m.line.toNat:Int) (drainF (Aa h.E m.line.toNat).q h.bs (Aa h.E m.line.toNat).fre).1:=(EW.drain _ _ _ hew.fre hew.q hew.l).mono (Nat.le_succ k);have f2:(drainF (Aa h.E m.line.toNat).q h.bs (Aa h.E m.line.toNat).fre).2.1.length=h.bs.length:=ME _ _ _ (by rw[←hj];exact okB) hew.q;have f3:takeH h m=putH h m (drainF (Aa h.E m.line.toNat).q h.bs (Aa h.E m.line.toNat).fre):=hT.trans ((if_neg (by omega)).trans ((if_neg (by omega)).trans ((if_pos hk).trans (if_pos a))));rw[f3] at hS;dsimp only[putH] at hS
     generalize drainF (Aa h.E m.line.toNat).q h.bs (Aa h.E m.line.toNat).fre=x at f1 f2 hS⊢;refine Zoc 0 AG U<|fun okx be' A' cap' Aq' cq'=>?_;obtain⟨kE',e1,e2,e3⟩:=Ez hj he hK be' x.1;have okN:HOk (k+1) ⟨x.2.1,h.E.set m.line.toNat x.1⟩:=ok.put he (by rw[←hj];exact okx) f2 f1;refine Zhd [6] U U<|Zht 0 U (ym U)<|Zht 1 U (yn U)<|Zht 2 U (yf 1 U)<|Zht 3 U (yd 4 U U U)<|Zht 4 U (yf 3 U)<|Zht 5 U (yd 10 U U U)<|Zht 6 U (ym U)<|Zht 7 U (yn U)<|Zht 8 U (yf 1 U) ?_
     refine Zht 9 U (yd 0 U U U)<|ZH1 10<|Zoe U (emu 0 U U U U U Tryz.underlying156 Tryz.underlying40)<|Ay 1 U<|ZHn<|Zxs<|Za 5 [0,0,1] U U ?_;refine Ze (es 10 U U U U U)<|Zw0<|Ze (es 9 U U U U U)<|Zw0<|Znr ?_;rw[e1,List.nil_append];refine Zfx [2,3] (DX (b:=be') (d:=x.1)) U ?_;refine Zfx [0,5] e3 U ?_;refine Zfx [4,4,1,0] (Bs (k:=k+1) (h:=⟨x.2.1,h.E.set m.line.toNat x.1⟩) okN e2) U ?_;refine ZrD (Q2 _ _) [] U (.c 5 U U U (.c 4 U U U .n)) (hS _ _) [2,0] 5 U U U
    ·skip
     rw[show takeH h m=(h,[],220) from hT.trans ((if_neg (by omega)).trans ((if_neg (by omega)).trans ((if_pos hk).trans (if_neg (by rw[a];decide)))))] at hS;refine Zox 0 AG U<|fun okx be' A' cap' Aq' cq'=>?_;refine Zfx [4,4,4,4] (Bs (k:=k) (h:=h) ok hK) U ?_;refine Zfx [0] (Cl (k:=k) (b:=b) (h:=h)) U ?_;refine Zix (fun _ hs=>Ag (E:=Al) hs) ?_;refine ZpD (X3 b4 b5 _ _ _ _ _) [8,7] U (.c 0 U U U (.c 1 U U U .n)) (hS none 0) [2,2] 8 U U U
def MD.putH (m:MD) (h:HD) (q:List Msg):MD:=⟨m.C,m.D,m.most,q,h⟩
def TY (m:MD) (q:List Msg) (x:Msg):MD:=
 if x.dst≠4 then(match m.D[x.dst.toNat]? with
  | some d=>m.putD x.dst.toNat (takeF d x).1 (Bf m.most q (takeF d x).2.1)
  | none=>m)
 else m.putH (takeH m.h x).1 (Bf m.most q (takeH m.h x).2.1)
def Bv (m:MD) (pick:Int):MD:=match m.q[Am pick m.q.length]? with
 | some x=>TY m (Ej m.q (Am pick m.q.length)) x
 | none=>m
theorem Je {m:MD} {pick:Int} {x:Msg} (a:m.q[Am pick m.q.length]? = some x):Bv m pick=TY m (Ej m.q (Am pick m.q.length)) x:=by unfold Bv;rw[a]
theorem MD.Ok.putH {k k':Nat} {m:MD} (a:m.Ok k) (h:HD) {q:List Msg} (hq:(q.length:Int)≤m.most):(m.putH h q).Ok k':=⟨a.n0,a.n1,a.d,a.m0,a.m1,hq⟩
theorem QZ {k b cap capb bn bh:Nat} {m:MD} {h:HD} {q:List Msg} {A B:Option Addr} {cb kb:List Nat} (ok:(m.putH h q).Ok k) (hl1:cb.length=m.C.length) (hl2:kb.length=m.C.length):∀g,Sep [.blk b 108 [.slice A cb.length cap,.slice B kb.length capb,pt bn,pt bh],.hp (own (CT 74) A cap cb),.hp (own (CT 80) B capb kb),.hp (BB k (cb.zip m.C)),.hp (C3 (kb.zip m.D)),.hp (DT bn m.most q),.hp (Ci k bh h)] g→BJ k b (m.putH h q) g:=AM (m:=m.putH h q) ok ⟨hl1,hl2⟩
theorem c94 (k b:Nat) (n0 pick:Int) (m:MD) (hp : -9223372036854775808≤pick∧pick≤9223372036854775807) (hk:k≤1000) (hn:∀x∈m.q,x.dst=4∨(0≤x.dst∧x.dst<(m.C.length:Int))):Sp Tryz.prog 94 [pt b,.int .i64 n0,.int .i64 pick] [.hp (BJ k b m)] fun K=>K (.returned (.agg (Cg.arr GE))) [.hp (BJ (k+1) b (Bv m pick))]:=by
 refine Zen Tryz.func94 U U U fun e X Φ hS=>Zoc 0 Cs U<|fun ok A cap B capb bn bh cb kb hl=>?_;obtain⟨hl1,hl2⟩:=hl;have hm0:m.most≠0:=by have:=ok.m0;omega
 have hql:m.q.length≤1048576:=by have:=ok.q;have:=ok.m1;omega
 refine Zsr<|Ze (eal z53) fun b6=>Zw<|Zns<|Za 5 [2,1] U U ?_;refine Zk (eR bn m.most pick m.q hm0 hql hp) [6] U U<|⟨?_,?_⟩
 refine fun a=>Zq<|Zv (ym rfl)<|Zv (yx rfl rfl)<|Zv (yx rfl rfl)<|Ze (eal Iy) fun b7=>Zw<|Ze (esw 0 (m:=20) rfl rfl rfl rfl rfl (Enc.len ..) (Enc.allL ..))<|Zw0<|Zv (ya rfl)<|Znl<|Znx ?_;refine Zsq<|Zsr<|Zb 2 U<|Zn<|Zct U<|Zsr<|Zv (yb l53 U)<|Ze (esw 2 (m:=20) U U U U U U U)<|Zw0 ?_;refine Znr<|Zr1 ?_;rotate_left;refine fun m_1=>fun a=>Zq<|Zv (ym rfl)<|Zv (yx rfl rfl)<|Zv (yx rfl rfl)<|Ze (eal Iy) fun b7=>Zw<|Ze (esw 0 (m:=20) rfl rfl rfl rfl rfl (Enc.len ..) (Enc.allL ..))<|Zw0<|Zv (ya rfl)<|Znl ?_;refine Zxq<|Zsr<|Zb 2 U<|Zn<|Zcf U<|Zkn ?_
 refine Zsr<|Za 4 [3,3] U U<|Zv (yfn U U)<|Zy U<|Znq ?_;refine Zsr<|Za 3 [2,0] U U<|Zn<|Zif U (fun h31=>?_) (fun h31=>?_);refine Zhd [] U U<|Zht 0 U (ym U)<|Zht 1 U (yn U)<|Zht 2 U (yf 1 U)<|Zht 3 U (yd 3 U U U)<|Zht 4 U (yf 2 U)<|Zht 5 U (yd 0 U U U) ?_;rotate_left;refine Zks<|Zm U<|Zv (ydw 0 (m:=20) U U (Enc.len ..)) ?_;rotate_left
 ·rw[show Bv m pick=m by unfold Bv;rw[show m.q[Am pick m.q.length]? = none by rw[a];rfl]] at hS;refine Zfx [1] (XS (q':=m.q) a.symm) U ?_;refine Zfx [6] (DV (k':=k+1) (Nat.le_succ k)) U ?_;refine Zfx [8] (Cl (k:=k)) U ?_;refine Zfx [5,5,5,1,4,1,0] (AM (k:=k+1) (m:=m) ok.mono ⟨hl1,hl2⟩) U<|Zre (.wh 2 (m:=20) U U U .n) hS [0] 2 U U U U
 ·have hmem:m_1∈m.q:=List.mem_of_getElem? a;have hdl:=Pr a;have hd:=ok.d;have hj:m_1.dst=((m_1.dst.toNat:Nat):Int):=by have:=hn m_1 hmem;omega
  have hjl:m_1.dst.toNat<kb.length:=by have:=hn m_1 hmem;omega
  have hki:=gE hjl;have hDi:=gE (l:=m.D) (k:=m_1.dst.toNat) (by omega);have hz2:=De hki hDi;have hzl2:m_1.dst.toNat<(kb.zip m.D).length:=(List.getElem?_eq_some_iff.1 hz2).1;rw[show Bv m pick=m.putD m_1.dst.toNat (takeF m.D[m_1.dst.toNat] m_1).1 (Bf m.most (Ej m.q (Am pick m.q.length)) (takeF m.D[m_1.dst.toNat] m_1).2.1) from(Je a).trans ((if_pos h31).trans (by rw[hDi]))] at hS;have hq1:((Ej m.q (Am pick m.q.length)).length:Int)≤m.most:=by have:=ok.q;omega
  have okn:=ok.putD (k':=k+1) m_1.dst.toNat (takeF m.D[m_1.dst.toNat] m_1).1 (Dv (l:=(takeF m.D[m_1.dst.toNat] m_1).2.1) hq1);refine Zht 6 U (yea 5 own.rd U U (congrArg (fun x=>some (Value.int .i64 x)) hj) hjl U Tryz.underlying106 U)<|Zht 7 U (yec (m:=0) 5 own.rd U (by assumption) U U U)<|Zht 8 U (yfn U U)<|Zht 9 U (ya U)<|ZHn<|Zxs<|Zm U<|Zv (ydw 0 (m:=20) U U (Enc.len ..)) ?_;refine Zol 7 (Ea hz2) U<|Zkv (eT ..) [0] U U U U<|fun A_1=>fun cap_1=>Zq<|Zb 5 U ?_;refine Zns<|Zb 2 U ?_
  refine Zk (N6 b bn _ _ _ A_1 cap_1 (takeF m.D[m_1.dst.toNat] m_1).2.1 m.most (Ej m.q (Am pick m.q.length)) ok.m0 ok.m1 hq1 (Nat.le_trans (TZ ..) (by decide))) [6,0,3] U U<|Zq<|Zns<|Zv (yb l53 U)<|Ze (esw 6 (m:=20) U U U U U U U)<|Zw0<|Znr ?_;refine Zfx [3,3] (ET (c:=(takeF m.D[m_1.dst.toNat] m_1).1) hki hzl2) U ?_;refine Zfx [8] (DV (k':=k+1) (Nat.le_succ k)) U ?_;refine Zfx [9] (Cl (k:=k)) U ?_;refine Zfx [3,7,7,1,1,2,0] (KN (k:=k+1) okn hl1 hl2) U<|Zre (.wh 3 (m:=20) U U U .n) hS [0] 3 U U U U
 ·have hdl:=Pr a;rw[show Bv m pick=m.putH (takeH m.h m_1).1 (Bf m.most (Ej m.q (Am pick m.q.length)) (takeH m.h m_1).2.1) from(Je a).trans (if_neg h31)] at hS;have hq1:((Ej m.q (Am pick m.q.length)).length:Int)≤m.most:=by have:=ok.q;omega
  have okn:=ok.putH (k':=k+1) (takeH m.h m_1).1 (Dv (l:=(takeH m.h m_1).2.1) hq1);refine Zol 8 SP U<|fun hok=>?_;have htl:(takeH m.h m_1).2.1.length≤1048576:=Nat.le_trans (Q9 hok m_1) (by omega);refine Zkv (eS k bh m.h m_1 hk) [0] U U U U<|fun A_1=>fun cap_1=>Zq<|Zb 5 U<|Znl ?_;refine Zxs<|Zb 2 U ?_;refine Zk (N6 b bn _ _ _ A_1 cap_1 (takeH m.h m_1).2.1 m.most (Ej m.q (Am pick m.q.length)) ok.m0 ok.m1 hq1 htl) [5,0,2] U U<|Zq<|Zns<|Zv (yb l53 U)<|Ze (esw 5 (m:=20) U U U U U U U)<|Zw0<|Znr ?_;refine Zfx [8] (DV (k':=k+1) (Nat.le_succ k)) U ?_
  refine Zfx [1,6,6,0,5,1,1] (QZ (k:=k+1) okn hl1 hl2) U<|Zre (.wh 3 (m:=20) U U U .n) hS [0] 3 U U U U
def C4 (m:MD) (i:Nat) (pick:Int):MD × Did:=match m.C[i]?,m.D[i]? with
 | some c,some d=>(m.put i (Av c d pick).1 (Av c d pick).2.1 (Bf m.most m.q (DS (Av c d pick).2.2)),MC c.h.id (Av c d pick).2.2)
 | _,_=>(m,GE)
theorem c93 (k b i:Nat) (pick:Int) (m:MD) (hi:i<m.C.length) (hp : -9223372036854775808≤pick∧pick≤9223372036854775807) (hk:k≤1000000):Sp Tryz.prog 93 [pt b,.int .i64 (i:Int),.int .i64 pick] [.hp (BJ k b m)] fun K=>K (.returned (.agg (Cg.arr (C4 m i pick).2))) [.hp (BJ (k+1) b (C4 m i pick).1)]:=by
 refine Zen Tryz.func93 U U U fun e X Φ hS=>Zoc 0 Cs U<|fun ok A cap B capb bn bh cb kb hl=>?_;obtain⟨hl1,hl2⟩:=hl;have hd:=ok.d;have hci:=gE (l:=cb) (k:=i) (by omega);have hki:=gE (l:=kb) (k:=i) (by omega);have hCi:=gE hi;have hDi:=gE (l:=m.D) (k:=i) (by omega);have hz:=De hci hCi;have hz2:=De hki hDi;have hzl:i<(cb.zip m.C).length:=(List.getElem?_eq_some_iff.1 hz).1;have hzl2:i<(kb.zip m.D).length:=(List.getElem?_eq_some_iff.1 hz2).1;have hic:i<cb.length:=by omega
 have hik:i<kb.length:=by omega
 rw[show C4 m i pick=(m.put i (Av m.C[i] m.D[i] pick).1 (Av m.C[i] m.D[i] pick).2.1 (Bf m.most m.q (DS (Av m.C[i] m.D[i] pick).2.2)),(MC m.C[i].h.id (Av m.C[i] m.D[i] pick).2.2)) by unfold C4;rw[hCi,hDi]] at hS;refine Zoc 3 (FJ hz) U<|Zsr<|Ze (eal z53) fun b6=>Zw<|Znq ?_;refine Zoc 6 (Ea hz2) U ?_
 refine Zhd [0,2] U U<|Zht 0 U (ym U)<|Zht 1 U (yn U)<|Zht 2 U (yf 0 U)<|Zht 3 U (yd 3 U U U)<|Zht 4 U (ym U)<|Zht 5 U (yea 4 own.rd U U U (by first|assumption|omega) U Tryz.underlying105 U)<|Zht 6 U (yec (m:=0) 4 own.rd U (by assumption) U U U)<|Zht 7 U (ym U)<|Zht 8 U (yn U) ?_;refine Zht 9 U (yf 1 U)<|Zht 10 U (yd 3 U U U)<|Zht 11 U (ym U)<|Zht 12 U (yea 5 own.rd U U U (by first|assumption|omega) U Tryz.underlying106 U)<|Zht 13 U (yec (m:=0) 5 own.rd U (by assumption) U U U)<|Zht 14 U (ym U) ?_
 have okn:(m.put i (Av m.C[i] m.D[i] pick).1 (Av m.C[i] m.D[i] pick).2.1 (Bf m.most m.q (DS (Av m.C[i] m.D[i] pick).2.2))).Ok (k+1):=ok.put i _ _ (Dv ok.q);refine ZH2 15 20 (Zok (Zf cb[i] kb[i] k pick m.C[i] m.D[i] hp hk) [1,0] U U U<|fun A' cap'=>Zqh 3 U ?_) (Zoe U (eal z53) fun b7=>Zwh 3 U ?_)
 ·refine Zht 16 U (ym U)<|Zht 17 U (yx U U)<|Zht 18 U (yx U U)<|Zht 19 U (yx U U)<|ZH1 20<|Zoe U (eal z53) fun b7=>Zwh 4 U<|ZH1 21<|Zoe U (esw 0 (m:=20) U U U U U (Enc.len ..) (Enc.allL ..))<|Ay 4 U<|Zht 22 U (ya U)<|Zht 23 U (ya U)<|ZHn<|Znx ?_;refine Zsr<|Zb 2 U ?_;refine Zk (N6 b bn _ _ _ A' cap' (DS (Av m.C[i] m.D[i] pick).2.2) m.most m.q ok.m0 ok.m1 ok.q (Nat.le_trans (Kp ..) (by decide))) [7,1,8] U U<|Zq<|Zns<|Zv (ydw 3 (m:=20) U U (Enc.len ..))<|Ze (esw 7 (m:=20) U U U U U (Enc.len ..) (Enc.allL ..))<|Zw0<|Znr ?_
  refine Zfx [8] (DV (k':=k+1) (Nat.le_succ k)) U ?_;refine Zfx [5,0] (EV (k:=k+1) (c:=(Av m.C[i] m.D[i] pick).1) hci hzl) U ?_;refine Zfx [5,5] (ET (c:=(Av m.C[i] m.D[i] pick).2.1) hki hzl2) U ?_;refine Zfx [9] (Cl (k:=k)) U ?_;refine Zfx [3,7,7,2,1,2,0] (G1 (k:=k+1) okn hl1 hl2) U<|Zre (.wh 3 (m:=20) U U (Enc.len ..) .n) hS [0] 3 U U U U
 ·refine ZH1 15<|Zok (Zf cb[i] kb[i] k pick m.C[i] m.D[i] hp hk) [2,1] U U U<|fun A' cap'=>Zqh 4 U<|Zht 16 U (ym U)<|Zht 17 U (yx U U)<|Zht 18 U (yx U U)<|Zht 19 U (yx U U)<|ZH1 21<|Zoe U (esw 3 (m:=20) U U U U U (Enc.len ..) (Enc.allL ..))<|Ay 4 U<|Zht 22 U (ya U)<|Zht 23 U (ya U)<|ZHn<|Znx ?_;refine Zsr<|Zb 2 U ?_;refine Zk (N6 b bn _ _ _ A' cap' (DS (Av m.C[i] m.D[i] pick).2.2) m.most m.q ok.m0 ok.m1 ok.q (Nat.le_trans (Kp ..) (by decide))) [7,0,8] U U<|Zq<|Zns<|Zv (ydw 5 (m:=20) U U (Enc.len ..))<|Ze (esw 7 (m:=20) U U U U U (Enc.len ..) (Enc.allL ..))<|Zw0<|Znr ?_
  refine Zfx [8] (DV (k':=k+1) (Nat.le_succ k)) U ?_;refine Zfx [4,0] (EV (k:=k+1) (c:=(Av m.C[i] m.D[i] pick).1) hci hzl) U ?_;refine Zfx [4,5] (ET (c:=(Av m.C[i] m.D[i] pick).2.1) hki hzl2) U ?_;refine Zfx [9] (Cl (k:=k)) U ?_;refine Zfx [3,7,7,2,1,2,0] (G1 (k:=k+1) okn hl1 hl2) U<|Zre (.wh 3 (m:=20) U U (Enc.len ..) .n) hS [0] 3 U U U U
def A4 (k b:Nat) (m:MD):HP:=fun h=>∃bp,Sep [.blk b 104 [pt bp],.hp (BJ k bp m)] h
theorem E0 {k b:Nat} {m:MD}:Op_ (A4 k b m) fun K=>∀bp,K [.blk b 104 [pt bp],.hp (BJ k bp m)] := .mk fun G K h hh=>by obtain⟨bp,hs⟩:=hh;exact⟨_,K bp,hs⟩
theorem B9 {k b bp:Nat} {m:MD}:∀h,Sep [.blk b 104 [pt bp],.hp (BJ k bp m)] h→A4 k b m h:=fun _ hs=>⟨bp,hs⟩
theorem c35 (k b:Nat) (m:MD):Sp Tryz.prog 35 [pt b] [.hp (A4 k b m)] fun K=>K (.returned (.bool false)) [.hp (A4 k b m)]:=by refine Zen Tryz.func35 U U U fun e X Φ hS=>Zoc 0 E0 U<|fun bp=>?_;refine Zsr<|Zy U<|Zns<|Zm U<|Zv (D6 U U U)<|Zb 2 U ?_;refine Za 3 [0,0] U U<|Zg U U<|Zv (D6 U U U)<|Zb 2 U ?_;refine Znr ?_;refine Zfx [0,0] (B9 (m:=m)) U<|Zre (.t U .n) hS [0] 0 U U U U
theorem c43 (k b:Nat) (m:MD):Sp Tryz.prog 43 [pt b] [.hp (A4 k b m)] fun K=>∀A cap,K (.returned (.slice A m.q.length cap)) [.hp (own Al A cap m.q),.hp (A4 k b m)]:=by
 refine Zen Tryz.func43 U U U fun e X Φ hS=>Zsr<|Zy U<|Aj<|Zm U<|Zk (c35 ..) [0] U U<|Zq ?_;refine Zn<|Zcf U<|Zks<|Za 3 [0] U U ?_;refine Zol 0 E0 U<|fun bp=>Zv (yd 0 U U U)<|Za 2 [2] U U ?_;refine Zol 1 Cs U<|fun ok A cap B capb bn bh cb kb hl=>Zv (yd 0 U U U) ?_;have hm0:m.most≠0:=by have:=ok.m0;omega
 have hql:m.q.length≤1048576:=by have:=ok.q;have:=ok.m1;omega
 refine Zol 5 HJ U<|fun An capn=>Zol 1 Ee U<|fun hA hcp hcm=>Zk (c80 ..) [1,0] U U<|fun A'=>fun cap'=>Zq<|Zy U<|Znr ?_;refine Zfx [1,1] (C9 (b:=bn) (q:=m.q) U) U ?_;refine Zfx [2,2,2,2,2,0,1] (AM (m:=m) ok hl) U ?_;refine Zfx [2,0] (B9 (m:=m)) U<|Zre (.t U .n) (hS _ _) [1,0] 0 U U U U
theorem c50 (bp:Nat):Sp Tryz.prog 50 [pt bp] [] fun K=>K (.returned (.agg #[.nilFunc,.func (.func 92) #[pt bp] #[],.func (.func 93) #[pt bp] #[],.func (.func 94) #[pt bp] #[],.func (.func 95) #[pt bp] #[],.func (.func 96) #[pt bp] #[]])) []:=by refine Zen Tryz.func50 U U U fun e X Φ hS=>Zsr<|Ze (eal lI) fun b2=>Zw<|Zns<|Zm U<|Zv (yfn U U)<|Zm U<|Zv (yfn U U) ?_;refine Zm U<|Zv (yfn U U)<|Zm U<|Zv (yfn U U)<|Zm U<|Zv (yfn U U)<|Zv (yb jJ U)<|Ze (esw 0 (m:=6) U U U U U U U)<|Zw0<|Zn ?_;refine Zrt<|Zre (.wh 0 (m:=6) U U U .n) hS [] 1 U U U U
theorem HM {k b:Nat} {m:MD}:∀g,Sep [.hp (BJ k b m)] g→BJ (k+1) b m g:=fun g hs=>by obtain⟨h1,h2,hle,_,_,⟨ok,A,cap,B,capb,bn,bh,cb,kb,hl,hp⟩,_⟩:=hs;have hp:=hp.up hle;refine⟨ok.mono,A,cap,B,capb,bn,bh,cb,kb,hl,?_⟩;refine hp.mapTl fun _ hp=>hp.mapTl fun _ hp=>hp.mapTl fun _ hp=>?_;have hp:=hp.hd (q := .hp (BB (k+1) (cb.zip m.C))) fun _ hh=>DV (Nat.le_succ k) _ (BN hh);refine hp.mapTl fun _ hp=>hp.mapTl fun _ hp=>hp.mapTl fun _ hp=>?_;exact hp.hd (q := .hp (Ci (k+1) bh m.h)) fun _ hh=>Cl _ (BN hh)
theorem Uv {P:Program} {f:Nat} {args:List Value} {p:HP} {R L:List Ck} {S:Out→Prop} (c:Sp P f args (.hp p::L) S) (hf:∀h,Sep R h→p h):Sp P f args (R++L) S:=⟨fun e X w Φ hp hS=>c.run e X w Φ (hp.imp fun h hs=>by
 rw[List.append_assoc] at hs
 exact hs.unflat.hd (q := .hp p) hf) hS⟩
theorem K8 {P:Program} {f:Nat} {args:List Value} {p p':HP} {v:Value} {q:Ck} (c:Sp P f args [.hp p] fun K=>K (.returned v) [.hp p']):Sp P f args [.hp p,q] fun K=>K (.returned v) [.hp p',q]:=⟨fun e X w Φ hp hS=>c.run e (q::X) w Φ hp hS⟩
theorem Rp {P:Program} {f:Nat} {args:List Value} {p p':HP} {v:Value} {L M:List Ck} (c:Sp P f args L fun K=>K (.returned v) (.hp p::M)) (h:∀g,Sep [.hp p] g→p' g):Sp P f args L fun K=>K (.returned v) (.hp p'::M):=⟨fun e X w Φ hp hS=>c.run e X w Φ hp fun w' hw=>hS w' (hw.imp fun g hs=>hs.hd (q := .hp p') fun g' hp'=>h g' (BN hp'))⟩
def Bg (m:MD) (x:Cho):MD × Did:=
 if x.kind=1 then goM m (Am x.hart m.C.length) x.pick else if x.kind=2 then C4 m (Am x.hart m.C.length) x.pick
 else if x.kind=3 then(Bv m x.pick,GE) else if x.kind=4 then(HA m (Am x.hart m.C.length) x.pick,GE) else(HS m (Am x.hart m.C.length),GE)
def jA (bp:Nat):List Value:=[.nilFunc,.func (.func 92) #[pt bp] #[],.func (.func 93) #[pt bp] #[],.func (.func 94) #[pt bp] #[],.func (.func 95) #[pt bp] #[],.func (.func 96) #[pt bp] #[]]
theorem VY (k bp:Nat) (m:MD) (x:Cho) (hk:k≤1000) (h1:1≤x.kind) (h5:x.kind≤5) (hp : -9223372036854775808≤x.pick∧x.pick≤9223372036854775807) (hi:Am x.hart m.C.length<m.C.length) (hn:∀y∈m.q,y.dst=4∨(0≤y.dst∧y.dst<(m.C.length:Int))):∃f,nth (jA bp) x.kind.toNat=some (.func (.func f) #[pt bp] #[])∧Bq Tryz.prog f=true∧Sp Tryz.prog f [pt bp,.int .i64 ((Am x.hart m.C.length:Nat):Int),.int .i64 x.pick] [.hp (BJ k bp m),spC] fun K=>K (.returned (.agg (Cg.arr (Bg m x).2))) [.hp (BJ (k+1) bp (Bg m x).1),spC]:=by
 obtain⟨kd,ht,pk'⟩:=x;have hkd:kd=1∨kd=2∨kd=3∨kd=4∨kd=5:=by have h1:1≤kd:=h1;have h5:kd≤5:=h5;omega
 rcases hkd with rfl|rfl|rfl|rfl|rfl
 ·exact⟨92,rfl,by kernel_rfl,Rp (c92 k bp _ pk' m hi hp (by omega)) HM⟩
 ·exact⟨93,rfl,by kernel_rfl,K8 (c93 k bp _ pk' m hi hp (by omega))⟩
 ·exact⟨94,rfl,by kernel_rfl,K8 (c94 k bp _ pk' m hp hk hn)⟩
 ·exact⟨95,rfl,by kernel_rfl,K8 (Rp (c95 k bp _ pk' m hi hp) HM)⟩
 ·exact⟨96,rfl,by kernel_rfl,K8 (Rp (c96 k bp _ pk' m hi) HM)⟩
theorem Zjm {P:Program} {n:Nat} {r:Option Nat} {N:Nat × List Deferred} {T:Tb} {e:World} {Q:Exit→Act→World→Prop} {L:List Ck} {c c':Code} {ι:Type} (Ti:ι→Tb) (Mi:ι→List Ck) (Y:List Ck) (h1:ZC P r n c (Exit.then (Jk Ti (fun i=>Mi i++Y) N e) Q) N T e L) (h2:∀i,ZC P r n c' Q N (Ti i) e (Mi i++Y)):ZC P r n c (Exit.then (Kc P r n c' Q) Q) N T e L:=fun w hp ok a fr=>by
 refine Code.wpIn_mono ?_ (h1 w hp ok a fr);intro ex a' w' he;cases ex with
 | normal=>
  obtain⟨j,h3,h4⟩:=he;exact h2 j w' h4 ok a' h3
 | _=>exact he
def C8:Nat→List Cor→List CD→List Cor
 | i+1,c::C,d::D=>(if Fs c d then c.setR none else c)::C8 i C D
 | _,C,_=>C
theorem EE:∀(i:Nat) (C:List Cor) (D:List CD),(C8 i C D).length=C.length
 | 0,_,_=>rfl
 | _+1,[],_=>rfl
 | _+1,_::_,[]=>rfl
 | i+1,c::C,d::D=>by simp[C8,EE i C D]
theorem PJ:∀{i:Nat} {C:List Cor} {D:List CD} {c:Cor},C[i]? = some c→(C8 i C D)[i]? = some c
 | 0,_,_,_,h=>h
 | _+1,[],_,_,h=>by simp at h
 | _+1,_::_,[],_,h=>h
 | i+1,_::C,_::D,c,h=>by simp only[List.getElem?_cons_succ] at h;simp only[C8,List.getElem?_cons_succ];exact PJ h
theorem Nb:∀{i:Nat} {C:List Cor} {D:List CD} {c:Cor} {d:CD},C[i]? = some c→D[i]? = some d→(C8 i C D).set i (if Fs c d then c.setR none else c)=C8 (i+1) C D
 | 0,[],_,_,_,h,_=>by simp at h
 | 0,_::_,[],_,_,_,h=>by simp at h
 | 0,_::_,_::_,c,d,h,h'=>by simp at h h';subst h h';rfl
 | _+1,[],_,_,_,h,_=>by simp at h
 | _+1,_::_,[],_,_,_,h=>by simp at h
 | i+1,_::C,_::D,c,d,h,h'=>by simp only[List.getElem?_cons_succ] at h h';have:=Nb (i:=i) h h';show _::(C8 i C D).set i _=_::C8 (i+1) C D;rw[this]
def AV (m:MD):MD:=⟨C8 m.C.length m.C m.D,m.D,m.most,m.q,m.h⟩
theorem Dn {i b:Nat} {cb:List Nat} {l:List CD} {c:CD} (e:cb[i]? = some b) (e':l[i]? = some c) (hi:i<(cb.zip l).length):∀h,Sep [.hp (AK b c),.hp (C3 ((cb.zip l).eraseIdx i))] h→C3 (cb.zip l) h:=fun h hs=>by
 have:=ET (c:=c) e hi h hs
 rwa[show l.set i c=l from by
  obtain⟨h1,h2⟩:=List.getElem?_eq_some_iff.1 e';rw[←h2]
  exact List.set_getElem_self h1] at this
theorem MD.Ok.lost {k:Nat} {m:MD} (a:m.Ok k):(AV m).Ok k:=⟨by show 0<(C8 _ _ _).length;rw[EE];exact a.n0,by show(C8 _ _ _).length≤4;rw[EE];exact a.n1,by show _=(C8 _ _ _).length;rw[EE];exact a.d,a.m0,a.m1,a.q⟩
theorem QX {k b cap capb bn bh:Nat} {m:MD} {A B:Option Addr} {cb kb:List Nat} (ok:m.Ok k) (hl:cb.length=m.C.length∧kb.length=m.C.length):∀g,Sep [.blk b 108 [.slice A cb.length cap,.slice B kb.length capb,pt bn,pt bh],.hp (own (CT 74) A cap cb),.hp (own (CT 80) B capb kb),.hp (BB k (cb.zip (C8 m.C.length m.C m.D))),.hp (C3 (kb.zip m.D)),.hp (DT bn m.most m.q),.hp (Ci k bh m.h)] g→BJ k b (AV m) g:=AM (m:=AV m) ok.lost (by rw[show(AV m).C.length=m.C.length from EE ..];exact hl)
theorem fG (k b:Nat) (m:MD) (x:Cho) (hk:k≤1000) (h1:1≤x.kind) (h5:x.kind≤5) (hp : -9223372036854775808≤x.pick∧x.pick≤9223372036854775807) (hh : -9223372036854775808≤x.hart∧x.hart≤9223372036854775807) (hn:∀y∈m.q,y.dst=4∨(0≤y.dst∧y.dst<(m.C.length:Int))):Sp Tryz.prog 16 [pt b,.agg (N8.arr x)] [.hp (A4 k b m),spC] fun K=>K (.returned (.tuple #[.agg (Cg.arr (Bg m x).2),.int .i64 0])) [.hp (A4 (k+1) b (AV (Bg m x).1)),spC]:=by
 refine Zen Tryz.func16 U U U fun e X Φ hS=>?_;refine Zsr<|Ze (A8 U) fun b3=>Zw<|Ze (eal z53) fun b4=>Zw<|Zy U<|Znq<|Zbl<|Zsr<|Zm U ?_;refine Zk (c35 ..) [2] U U<|Zq<|Zy U<|Zn<|Zcf U<|Zsr<|Zv (ydw 2 (m:=3) U U (Enc.len ..))<|Zk (c38 ..) [] U U<|Zq ?_;refine Zb 2 U<|Zn<|Zib U (fun h13=>?_) (fun h13=>?_);refine Zsr<|Zv (yb l53 U)<|Ze (esw 1 (m:=20) U U U U U U U)<|Zw0<|Zy U<|Znr<|Zr2<|Zr1 ?_;rotate_left;refine Zsk<|Zxn<|Zxq ?_;rotate_left
 ·exfalso;simp at h13;omega
 ·refine Zoc 0 E0 U<|fun bp=>Zoc 1 Cs U<|fun ok A cap B capb bn bh cb kb hl=>?_;refine Zjm (ι:=Nat) (fun b6=>[(0,pt b),(4,pt b4),(5,.int .i64 0),(6,pt b6)]) (fun b6=>[.blk b6 53 (Cg.cells (Bg m x).2),.hp (BJ (k+1) bp (Bg m x).1),.blk b4 53 (Cg.cells GE),.blk b 104 [pt bp],spC]) X ?_ fun i=>?_;rotate_left;refine Zsq<|Zsr<|Za 6 [0,3,0] U U ?_;rotate_left
  ·have hcl:0<m.C.length:=ok.n0;have hcl4:=ok.n1;obtain⟨p1,p2,p3,p4⟩:=G2 x.hart hcl;obtain⟨f,hf,hok,hc⟩:=VY k bp m x hk h1 h5 hp p2 hn;have hc:=Uv (L:=[spC]) hc (AM (A:=A) (cap:=cap) (B:=B) (capb:=capb) (bn:=bn) (bh:=bh) ok hl);have hkn:x.kind=((x.kind.toNat:Nat):Int):=by omega
   have hkl:Nat.blt x.kind.toNat 6=true:=Nat.ble_eq_true_of_le (show x.kind.toNat+1≤6 by omega);have hcb0:0<cb.length:=by omega
   have hcb4:cb.length≤1048576:=by omega
   rw[←hl.1] at hc;refine Zhd [0,0,0,0,0,0,0,3] U U<|Zht 0 U (ym U)<|Zht 1 U (yn U)<|Zht 2 U (yf 0 U)<|Zht 3 U (yd 0 U U U)<|Zht 5 U (yf 0 U)<|Zht 6 U (yd 2 U U U)<|Zht 8 U (yf 1 U)<|Zht 9 U (yd 2 U U U)<|Zht 10 U (ym U) ?_;refine Zht 11 U (yn U)<|Zht 12 U (yf 0 U)<|Zht 13 U (yd 0 U U U)<|Zht 14 U (yn U)<|Zht 15 U (yf 0 U)<|Zht 19 U (yf 2 U)<|Zht 20 U (yd 2 U U U) ?_;refine Zh3 4 16 22 (by kernel_rfl) (Zok (c50 bp) [] U U U<|Zqh 8 U ?_) (Zov U (yd 0 U U U) ?_) (Zoe U (eal z53) fun b6=>Zwh 9 U ?_)
   ·refine Zht 7 U (yix (i:=x.kind.toNat) U (congrArg (fun v=>some (Value.int .i64 v)) hkn) hf Tryz.underlying130 hkl) ?_;refine ZH2 16 22 (Zov U (yd 0 U U U) ?_) (Zoe U (eal z53) fun b6=>Zwh 9 U ?_)
    ·refine Zht 17 U (Aw ⟨_,Tryz.underlying105⟩ U) ?_;refine ZH2 18 22 (Zok (c51 x.hart cb.length hcb0 hcb4 hh) [] U U U<|Zqh 8 U ?_) (Zoe U (eal z53) fun b6=>Zwh 9 U ?_)
     ·refine ZH2 21 22 (Dg (t':=25) hc [0,0,0,0,0,0,0,0] U U U U U (Zqh 2 U ?_) U hok) (Zoe U (eal z53) fun b6=>Zwh 9 U ?_)
      ·refine Zh1 22 (by kernel_rfl) (Zoe U (eal z53) fun b6=>Zwh 3 U ?_);refine ZH1 23<|Zoe U (esw 0 (m:=20) U U U U U (Enc.len ..) (Enc.allL ..))<|Ay 3 U<|ZHn ?_;refine Zjr b6 ⟨U,U,U,U,trivial⟩ [0,0,2,1,0] 1 U U
      ·refine Zh1 21 (by kernel_rfl) (Dg (t':=25) hc [1,1,1,1,1,1,1,1] U U U U U (Zqh 3 U ?_) U hok);refine ZH1 23<|Zoe U (esw 2 (m:=20) U U U U U (Enc.len ..) (Enc.allL ..))<|Ay 3 U<|ZHn ?_;refine Zjr b6 ⟨U,U,U,U,trivial⟩ [2,0,2,1,0] 1 U U
     ·refine Zh1 18 (by kernel_rfl) (Zok (c51 x.hart cb.length hcb0 hcb4 hh) [] U U U<|Zqh 9 U ?_);refine Zh1 21 (by kernel_rfl) (Dg (t':=25) hc [1,1,1,1,1,1,1,1] U U U U U (Zqh 3 U ?_) U hok);refine ZH1 23<|Zoe U (esw 2 (m:=20) U U U U U (Enc.len ..) (Enc.allL ..))<|Ay 3 U<|ZHn ?_;refine Zjr b6 ⟨U,U,U,U,trivial⟩ [2,0,2,1,0] 1 U U
    ·refine Zh1 16 (by kernel_rfl) (Zov U (yd 1 U U U) ?_);refine Zht 17 U (Aw ⟨_,Tryz.underlying105⟩ U) ?_;refine Zh1 18 (by kernel_rfl) (Zok (c51 x.hart cb.length hcb0 hcb4 hh) [] U U U<|Zqh 9 U ?_);refine Zh1 21 (by kernel_rfl) (Dg (t':=25) hc [1,1,1,1,1,1,1,1] U U U U U (Zqh 3 U ?_) U hok);refine ZH1 23<|Zoe U (esw 2 (m:=20) U U U U U (Enc.len ..) (Enc.allL ..))<|Ay 3 U<|ZHn ?_;refine Zjr b6 ⟨U,U,U,U,trivial⟩ [2,0,2,1,0] 1 U U
   ·refine Zht 17 U (Aw ⟨_,Tryz.underlying105⟩ U) ?_;refine ZH2 4 22 (Zok (c50 bp) [] U U U<|Zqh 8 U ?_) (Zoe U (eal z53) fun b6=>Zwh 9 U ?_)
    ·refine Zht 7 U (yix (i:=x.kind.toNat) U (congrArg (fun v=>some (Value.int .i64 v)) hkn) hf Tryz.underlying130 hkl) ?_;refine ZH2 18 22 (Zok (c51 x.hart cb.length hcb0 hcb4 hh) [] U U U<|Zqh 8 U ?_) (Zoe U (eal z53) fun b6=>Zwh 9 U ?_)
     ·refine ZH2 21 22 (Dg (t':=25) hc [0,0,0,0,0,0,0,0] U U U U U (Zqh 2 U ?_) U hok) (Zoe U (eal z53) fun b6=>Zwh 9 U ?_)
      ·refine Zh1 22 (by kernel_rfl) (Zoe U (eal z53) fun b6=>Zwh 3 U ?_);refine ZH1 23<|Zoe U (esw 0 (m:=20) U U U U U (Enc.len ..) (Enc.allL ..))<|Ay 3 U<|ZHn ?_;refine Zjr b6 ⟨U,U,U,U,trivial⟩ [0,0,2,1,0] 1 U U
      ·refine Zh1 21 (by kernel_rfl) (Dg (t':=25) hc [1,1,1,1,1,1,1,1] U U U U U (Zqh 3 U ?_) U hok);refine ZH1 23<|Zoe U (esw 2 (m:=20) U U U U U (Enc.len ..) (Enc.allL ..))<|Ay 3 U<|ZHn ?_;refine Zjr b6 ⟨U,U,U,U,trivial⟩ [2,0,2,1,0] 1 U U
     ·refine Zh1 18 (by kernel_rfl) (Zok (c51 x.hart cb.length hcb0 hcb4 hh) [] U U U<|Zqh 9 U ?_);refine Zh1 21 (by kernel_rfl) (Dg (t':=25) hc [1,1,1,1,1,1,1,1] U U U U U (Zqh 3 U ?_) U hok);refine ZH1 23<|Zoe U (esw 2 (m:=20) U U U U U (Enc.len ..) (Enc.allL ..))<|Ay 3 U<|ZHn ?_;refine Zjr b6 ⟨U,U,U,U,trivial⟩ [2,0,2,1,0] 1 U U
    ·refine Zh1 4 (by kernel_rfl) (Zok (c50 bp) [] U U U<|Zqh 9 U ?_);refine Zht 7 U (yix (i:=x.kind.toNat) U (congrArg (fun v=>some (Value.int .i64 v)) hkn) hf Tryz.underlying130 hkl) ?_;refine Zh1 18 (by kernel_rfl) (Zok (c51 x.hart cb.length hcb0 hcb4 hh) [] U U U<|Zqh 9 U ?_);refine Zh1 21 (by kernel_rfl) (Dg (t':=25) hc [1,1,1,1,1,1,1,1] U U U U U (Zqh 3 U ?_) U hok);refine ZH1 23<|Zoe U (esw 2 (m:=20) U U U U U (Enc.len ..) (Enc.allL ..))<|Ay 3 U<|ZHn ?_;refine Zjr b6 ⟨U,U,U,U,trivial⟩ [2,0,2,1,0] 1 U U
   ·refine ZH2 4 16 (Zok (c50 bp) [] U U U<|Zqh 9 U ?_) (Zov U (yd 1 U U U) ?_)
    ·refine Zht 7 U (yix (i:=x.kind.toNat) U (congrArg (fun v=>some (Value.int .i64 v)) hkn) hf Tryz.underlying130 hkl) ?_;refine Zh1 16 (by kernel_rfl) (Zov U (yd 1 U U U) ?_);refine Zht 17 U (Aw ⟨_,Tryz.underlying105⟩ U) ?_;refine Zh1 18 (by kernel_rfl) (Zok (c51 x.hart cb.length hcb0 hcb4 hh) [] U U U<|Zqh 9 U ?_);refine Zh1 21 (by kernel_rfl) (Dg (t':=25) hc [1,1,1,1,1,1,1,1] U U U U U (Zqh 3 U ?_) U hok);refine ZH1 23<|Zoe U (esw 2 (m:=20) U U U U U (Enc.len ..) (Enc.allL ..))<|Ay 3 U<|ZHn ?_;refine Zjr b6 ⟨U,U,U,U,trivial⟩ [2,0,2,1,0] 1 U U
    ·refine Zht 17 U (Aw ⟨_,Tryz.underlying105⟩ U) ?_;refine Zh1 4 (by kernel_rfl) (Zok (c50 bp) [] U U U<|Zqh 9 U ?_);refine Zht 7 U (yix (i:=x.kind.toNat) U (congrArg (fun v=>some (Value.int .i64 v)) hkn) hf Tryz.underlying130 hkl) ?_;refine Zh1 18 (by kernel_rfl) (Zok (c51 x.hart cb.length hcb0 hcb4 hh) [] U U U<|Zqh 9 U ?_);refine Zh1 21 (by kernel_rfl) (Dg (t':=25) hc [1,1,1,1,1,1,1,1] U U U U U (Zqh 3 U ?_) U hok);refine ZH1 23<|Zoe U (esw 2 (m:=20) U U U U U (Enc.len ..) (Enc.allL ..))<|Ay 3 U<|ZHn ?_;refine Zjr b6 ⟨U,U,U,U,trivial⟩ [2,0,2,1,0] 1 U U
  ·generalize Bg m x=y at hS⊢;obtain⟨m1,dd⟩:=y;dsimp only at hS⊢;refine Zol 1 Cs U<|fun ok1 A1 cap1 B1 capb1 bn1 bh1 cb1 kb1 hl1=>Zv (yd 0 U U U)<|Zv (Aw ⟨_,Tryz.underlying105⟩ U)<|Zm U<|Znb ?_;have hCl:m1.C.length≤4:=ok1.n1;have hDl:=ok1.d;obtain⟨hl1,hl2⟩:=hl1
   refine Zlq (ι:={ j:Nat // j≤cb1.length }) (fun j=>[(48,.int .i64 (j.1:Int)),(47,.int .i64 (cb1.length:Int)),(46,.slice A1 cb1.length cap1),(0,pt b),(4,pt b4),(5,.int .i64 0),(6,pt i)]) (fun j=>[.hp (BB (k+1) (cb1.zip (C8 j.1 m1.C m1.D))),.hp (C3 (kb1.zip m1.D))]) (fun j=>cb1.length-j.1) ⟨0,by omega⟩ ⟨U,U,U,U,U,U,U,trivial⟩ [3,3] U fun j=>Zsr<|Zv (ylt U U)<|Znq<|Zif U (fun h49=>?_) (fun h49=>?_)
   refine Zkn<|Zsq<|Zbl<|Zsr<|Zm U<|Zv (yea 3 own.rd U U U (by first|assumption|omega) U Tryz.underlying105 U)<|Zv (yec (m:=0) 3 own.rd U (gE (by first|assumption|omega)) U U U)<|Zb 2 U ?_;refine Zn<|Zrg<|Za 7 [0,9,1] U U ?_;refine Za 2 [2] U U<|Zv (yea 4 own.rd U U U (by first|assumption|omega) U Tryz.underlying106 U)<|Zv (yec (m:=0) 4 own.rd U (gE (by first|assumption|omega)) U U U) ?_;rotate_left;refine Zex<|Zxt<|Zxt<|Zxx<|Zxs<|Zv (ydw 7 (m:=20) U U (Enc.len ..))<|Ze (esw 8 (m:=20) U U U U (Enc.len ..) (Enc.len ..) (Enc.allL ..))<|Zw0<|Zy U<|Znl ?_;refine Zxr ?_
   rotate_left
   ·have hlt:j.1<cb1.length:=by omega
    have hci:=gE hlt;have hki:=gE (l:=kb1) (k:=j.1) (by omega);have hCi:=gE (l:=m1.C) (k:=j.1) (by omega);have hDi:=gE (l:=m1.D) (k:=j.1) (by omega);have hz1:=De hci (PJ (D:=m1.D) hCi);have hz2:=De hki hDi;have hzl1:=(List.getElem?_eq_some_iff.1 hz1).1;have hzl2:=(List.getElem?_eq_some_iff.1 hz2).1;refine Zol 0 (FJ hz1) U ?_;refine Zol 2 (Ea hz2) U ?_;refine Zk (c52 (k+1) cb1[j.1] kb1[j.1] m1.C[j.1] m1.D[j.1]) [2,0] U U<|Zq<|Znl<|Zxn<|Znx<|Zrg<|Zv (Ac U U (Ar U (by omega)))<|Zm U<|Znl ?_
    refine Zfx [0,2] (EV (c:=if Fs m1.C[j.1] m1.D[j.1] then m1.C[j.1].setR none else m1.C[j.1]) hci hzl1) U ?_;rw[Nb hCi hDi];refine Zfx [1,1] (Dn hki hDi hzl2) U ?_;refine Zlr ⟨j.1+1,by omega⟩ (by show cb1.length-(j.1+1)<cb1.length-j.1;omega) ⟨U,U,U,U,U,U,U,trivial⟩ [1,0] 0 U U
   ·have hj:=j.2;rw[show j.1=m1.C.length by omega];refine Zfx [2,2,2,0,0,0,0] (QX (m:=m1) ok1 ⟨hl1,hl2⟩) U ?_;refine Zfx [3,0] (B9 (m:=AV m1)) U<|Zre (.wh 2 (m:=20) U U (Enc.len ..) (.t U .n)) hS [0,2] 2 U U U U
theorem Jj:BX Cg 33 136:=⟨Tryz.underlying33,by
 obtain⟨i0,hi,hz0,hz1,hz2⟩:=info_parts (show(Tryz.prog.info? 53).map (fun i=>(i.zero,i.size,i.bytes))=some (some (.agg (Cg.arr GE)),20,136) by kernel_rfl)
 exact⟨i0,_,hi,hz0,hz1,hz2,by rw[show(Value.agg (Cg.arr GE)).cells=Cg.arr GE from rfl,Cg.size]⟩⟩
theorem Wr:BX Bh 65 152:=⟨Tryz.underlying65,by
 obtain⟨i0,hi,hz0,hz1,hz2⟩:=info_parts (show(Tryz.prog.info? 59).map (fun i=>(i.zero,i.size,i.bytes))=some (some (.agg (Bh.arr (Fo 0))),35,152) by kernel_rfl)
 exact⟨i0,_,hi,hz0,hz1,hz2,by rw[show(Value.agg (Bh.arr (Fo 0))).cells=Bh.arr (Fo 0) from rfl,Bh.size]⟩⟩
theorem MK:BX (CT 74) 105 8:=⟨Tryz.underlying105,by
 obtain⟨i0,hi,hz0,hz1,hz2⟩:=info_parts (show(Tryz.prog.info? 74).map (fun i=>(i.zero,i.size,i.bytes))=some (some (.pointer none),1,8) by kernel_rfl)
 exact⟨i0,_,hi,hz0,hz1,hz2,rfl⟩⟩
theorem Kr:BX (CT 80) 106 8:=⟨Tryz.underlying106,by
 obtain⟨i0,hi,hz0,hz1,hz2⟩:=info_parts (show(Tryz.prog.info? 80).map (fun i=>(i.zero,i.size,i.bytes))=some (some (.pointer none),1,8) by kernel_rfl)
 exact⟨i0,_,hi,hz0,hz1,hz2,rfl⟩⟩
section
variable {N:Nat × List Deferred} {T:Tb} {e:World} {L:List Ck} {x:Operand} {ty:TypeId} {pos:String} {af:Array Edge} {g:Option (Nat × Bool)} {dd:Option Nat} {t TT:Nat}
theorem ebp {k bytes:Nat} (hE:BX (CT TT) t bytes) (h:evT T x=some (pt k)):Ef Tryz.prog N T e L ⟨dd,.buildSlice t 1 #[(0,x)],ty,pos,af,g⟩ fun K=>∀A,K (some (.slice A 1 1)) (.hp (own (CT TT) A 1 [k])::L):=fun a w fr hp G kk => .inl (by
 obtain⟨i,z,hi,hz,hsz,hby,hzc⟩:=hE.info;have hs1:i.size=1:=hsz;refine⟨.slice (some ⟨w.heap.size,0,none⟩) 1 1,w.alloc (.cells #[pt k] TT),?_,kk _ _ (hp.ownNew ((AJ.refl _ w).alloc _) ⟨by simp,by decide,.inr ⟨_,0,_,rfl,Go.heap_alloc_new w _,by simp[CT],by simp[CT]⟩⟩ DR)⟩
 have hfill:Instr.fill (fun q=>some (q*i.size,i.size)) ((Array.range (1*i.size)).map (z.cells[· % z.cells.size]!)) [(0,pt k)]=some #[pt k]:=by
  rw[hs1];generalize hzz:(Array.range (1*1)).map (z.cells[· % z.cells.size]!)=zz;have hz1:zz.size=1:=by rw[←hzz];simp
  rcases zz with⟨_|⟨v0,_|⟨v1,l⟩⟩⟩
  ·exact absurd hz1 (by simp)
  ·rfl
  ·exact absurd hz1 (by simp)
 have:=run_buildSlice (P:=Tryz.prog) w t TT 1 #[(0,pt k)] #[pt k] i z hE.ty hi hz (by rw[hs1];omega) (by rw[hs1];omega) hfill
 simp[execOp,fr.evT h,this])
end
def Gn (x:Cho):Bool:=decide (1≤x.kind) && decide (x.kind≤5)
structure Kf (x:Cho):Prop where
 h : -9223372036854775808≤x.hart∧x.hart≤9223372036854775807
 p : -9223372036854775808≤x.pick∧x.pick≤9223372036854775807
def J9 (s:MD × List Did) (x:Cho):MD × List Did:=(AV (Bg s.1 x).1,if(Bg s.1 x).2.kind≠0 then s.2++[(Bg s.1 x).2] else s.2)
def AP (m:MD) (l:List Cho):MD × List Did:=l.foldl J9 (m,[])
theorem LR (m:MD) (l:List Cho):(AP m l).2.length≤l.length:=by
 have:∀(l:List Cho) (s:MD × List Did),(l.foldl J9 s).2.length≤s.2.length+l.length:=fun l=>by
  induction l with
  | nil=>intro s;exact Nat.le_refl _
  | cons x l ih=>
   intro s;have h1:=ih (J9 s x)
   have h2:(J9 s x).2.length≤s.2.length+1:=by
    unfold J9;dsimp only;split
    ·simp
    ·omega
   simp only[List.foldl_cons,List.length_cons];omega
 have:=this l (m,[]);rw[List.length_nil,Nat.zero_add] at this;exact this
theorem Vs {α β:Type} (f:α→β) {l:List α} {i:Nat} (h:i<l.length):(l.take i).map f++[f l[i]]=(l.take (i+1)).map f:=by rw[←Co (gE h),List.map_append];rfl
theorem Hw {k i b:Nat} {cb:List Nat} {l:List Cor} {c:Cor} (e:cb[i]? = some b) (e':l[i]? = some c) (hi:i<(cb.zip l).length):∀h,Sep [.hp (Br k b c),.hp (BB k ((cb.zip l).eraseIdx i))] h→BB k (cb.zip l) h:=fun h hs=>by
 have:=EV (c:=c) e hi h hs
 rwa[show l.set i c=l from by
  obtain⟨h1,h2⟩:=List.getElem?_eq_some_iff.1 e';rw[←h2]
  exact List.set_getElem_self h1] at this
theorem c15 (k b:Nat) (m:MD):Sp Tryz.prog 15 [pt b] [.hp (A4 k b m)] fun K=>∀A cap,K (.returned (.slice A (m.C.map (·.h)).length cap)) [.hp (own Bh A cap (m.C.map (·.h))),.hp (A4 k b m)]:=by
 refine Zen Tryz.func15 U U U fun e X Φ hS=>Zsr<|Zy U<|Aj<|Zm U<|Zk (c35 ..) [0] U U<|Zq ?_;refine Zn<|Zcf U<|Zks<|Zy U<|Znq ?_;refine Zsr<|Za 3 [0] U U ?_;refine Zol 0 E0 U<|fun bp=>Zv (yd 0 U U U)<|Za 2 [0] U U ?_;refine Zol 1 Cs U<|fun ok A cap B capb bn bh cb kb hl=>Zv (yd 0 U U U)<|Zv (Aw ⟨_,Tryz.underlying105⟩ U)<|Zm U<|Znb ?_;have hCl:m.C.length≤4:=ok.n1;obtain⟨hl1,hl2⟩:=hl;refine Zic (fun _ hs=>Ag (E:=Bh) hs) ?_
 refine Zlq (ι:={ p:Nat × Option Addr × Nat // p.1≤cb.length }) (fun p=>[(16,.int .i64 (p.1.1:Int)),(15,.int .i64 (cb.length:Int)),(14,.slice A cb.length cap),(3,.slice p.1.2.1 ((m.C.take p.1.1).map (·.h)).length p.1.2.2)]) (fun p=>[.hp (own Bh p.1.2.1 p.1.2.2 ((m.C.take p.1.1).map (·.h))),.hp (BB k (cb.zip m.C))]) (fun p=>cb.length-p.1.1) ⟨(0,none,0),by show 0≤_;omega⟩ ⟨U,U,U,U,trivial⟩ [0,3] U fun p=>Zsr<|Zv (ylt U U)<|Znq<|Zif U (fun h17=>?_) (fun h17=>?_)
 refine Zkn<|Zsq<|Zbl<|Zsr<|Zv (yea 3 own.rd U U U (by first|assumption|omega) U Tryz.underlying105 U)<|Zv (yec (m:=0) 3 own.rd U (gE (by first|assumption|omega)) U U U)<|Zy U<|Zn ?_;refine Zrg<|Zb 2 U ?_;rotate_left;refine Zex<|Zxt<|Zxt<|Zxx<|Zxs<|Zb 2 U<|Zn ?_;refine Zrt ?_;rotate_left
 ·have hlt:p.1.1<cb.length:=by omega
  have hci:=gE hlt;have hCi:=gE (l:=m.C) (k:=p.1.1) (by omega);have hz1:=De hci hCi;have hzl1:=(List.getElem?_eq_some_iff.1 hz1).1;have hlt4:p.1.1<m.C.length:=by omega
  have hdl:((m.C.take p.1.1).map (·.h)).length≤4:=by rw[List.length_map,List.length_take];omega
  have hm1:((m.C.take p.1.1).map (·.h)).length+1≤maxLen:=Nat.le_trans (show _≤1048576 by omega) (by decide);refine Zol 1 (FJ hz1) U<|Zk (c49 ..) [0] U U<|Zq<|Ze (eb1 Wr (by decide) U) fun A23=>Zw ?_;refine Ze (Dp 3 0 Wr U U U own.rd U U U (fun _ _=>U) (by simp;omega) hm1)<|fun A' cap'=>Zw<|Zy U<|Znl<|Zxn<|Znx<|Zrg<|Zv (Ac U U (Ar U (by omega)))<|Zm U<|Znl ?_;dsimp only;rw[Vs (f:=fun c:Cor=>c.h) hlt4];refine Zfx [1,1] (Hw hci hCi hzl1) U ?_;refine Zlr ⟨(p.1.1+1,A',cap'),hlt⟩ (by show cb.length-(p.1.1+1)<cb.length-p.1.1;omega) ⟨U,U,U,U,trivial⟩ [2,0] 1 U U
 ·have hpl:=p.2;rw[show p.1.1=m.C.length by omega,List.take_length];refine Zfx [2,2,2,1,1,1,1] (AM (m:=m) ok ⟨hl1,hl2⟩) U ?_;refine Zfx [2,0] (B9 (m:=m)) U<|Zre (.t U .n) (hS _ _) [1,0] 0 U U U U
theorem Qp {α β:Type} {a:List α} {l:List β} {i:Nat} {x:α} {y:β} (h:a.length=i) (e:l[i]? = some y):(a++[x]).zip (l.take (i+1))=a.zip (l.take i)++[(x,y)]:=by rw[←Co e,List.zip_append (by rw[List.length_take];have:=(List.getElem?_eq_some_iff.1 e).1;omega)];rfl
theorem Nd {β:Type} {F:β→HP} {l:List β} {x:β} {h:Hl} (hs:Sep [.hp (F x),.hp (B6 F l)] h):B6 F (l++[x]) h:=GT l (by rwa[List.append_nil])
theorem Jc {k i b:Nat} {nb:List Nat} {C:List Cor} {c:Cor} (h:nb.length=i) (e:C[i]? = some c):∀g,Sep [.hp (Br k b c),.hp (BB k (nb.zip (C.take i)))] g→BB k ((nb++[b]).zip (C.take (i+1))) g:=fun g hs=>by rw[Qp h e];exact Nd (F:=fun x:Nat × Cor=>Br k x.1 x.2) hs
theorem I9 {i b:Nat} {nb:List Nat} {C:List CD} {c:CD} (h:nb.length=i) (e:C[i]? = some c):∀g,Sep [.hp (AK b c),.hp (C3 (nb.zip (C.take i)))] g→C3 ((nb++[b]).zip (C.take (i+1))) g:=fun g hs=>by rw[Qp h e];exact Nd (F:=fun x:Nat × CD=>AK x.1 x.2) hs
structure Cpy where
 i:Nat
 A:Option Addr
 cap:Nat
 B:Option Addr
 capb:Nat
 nb:List Nat
 nk:List Nat
def MM (h:HD) (line:Int):Ent:=if(h.E.length:Int)≤line then⟨0,sh0,false,0,0,0,false,[]⟩ else Aa h.E line.toNat
theorem eB (k b:Nat) (h:HD) (line:Int) (hn:U32 line) (hk2:k≤1000):Sp Tryz.prog 102 [pt b,.int .u32 line] [.hp (Ci k b h)] fun K=>∀A cap x,K (.returned (.tuple #[.agg ((MM h line).cs (.slice A (MM h line).q.length cap)).toArray,.int .i64 x])) [.hp (Ci k b h)]:=by
 have hn':IntKind.i64.wrap line=line:=Ar rfl (by unfold U32 at hn;omega);refine Zen Tryz.func102 U U U fun e X Φ hS=>Zsr<|Ze (eal Rj) fun b4=>Zw<|Zy U<|Znq<|Zbl<|Zsr<|Zm U ?_;refine Zk (c62 ..) [1] U U<|Zq<|Zy U<|Zn<|Zcf U<|Zsr<|Zm U<|Zv (ycv Tryz.underlying40 Tryz.underlying2 U U)<|Zm U ?_;refine Zk (Zh ..) [0] U U<|Zq<|Zb 2 U<|Zn<|Zif U (fun h10=>?_) (fun h10=>?_);refine Zsr<|Zv (yb bA U)<|Ze (esw 1 (m:=11) U U U U U U U)<|Zw0<|Zy U<|Znr<|Zr2<|Zr1 ?_;rotate_left;refine Zsk<|Zxn<|Zxs<|Zb 2 U ?_;rotate_left
 ·rw[hn'] at h10;rw[show MM h line=_ from if_pos h10] at hS;refine Zre (.wh 1 (m:=11) U U U (.t U .n)) (hS none 0 4) [0] 1 U U U U
 ·rw[hn'] at h10;rw[show MM h line=_ from if_neg h10] at hS;have hj:line=((line.toNat:Nat):Int):=by have:=hn.1;omega
  have he:line.toNat<h.E.length:=by omega
  have hk0:k≤1000000:=by omega
  refine Zk (Wn k b line.toNat line hj h he hk0) [0] U U<|fun A=>fun cap=>Zq<|Ze (esw 2 (m:=11) U U U U U U U)<|Zw0<|Zy U<|Znr<|Zre (.wh 2 (m:=11) U U U (.t U .n)) (hS _ _ _) [1] 2 U U U U
def Ov (h:HD) (line n:Int):Bool:=decide ((MM h line).o=n)
theorem Y2 (k b1 bp:Nat) (line n:Int) (h:HD) (bh:Nat) (v0 v1 v2:Value) (hn:U32 line) (hk2:k≤1000):Sp Tryz.prog 101 [.int .u32 line,.int .i64 n,pt b1] [.blk b1 101 [pt bp],.blk bp 108 [v0,v1,v2,pt bh],.hp (Ci k bh h)] fun K=>K (.returned (.bool (Ov h line n))) [.blk b1 101 [pt bp],.blk bp 108 [v0,v1,v2,pt bh],.hp (Ci k bh h)]:=by
 refine Zen Tryz.func101 U U U fun e X Φ hS=>Zsr<|Zy U<|Zns<|Za 4 [0,3,1] U U ?_;refine Zm U ?_;refine Zk (eB k bh h line hn hk2) [2] U U<|fun A=>fun cap=>fun x=>Zq<|Zb 3 U<|Ze (eal Rj) fun b6=>Zw<|Ze (esw 0 (m:=11) U U U U U U U)<|Zw0 ?_;refine Zy U<|Zns<|Za 5 [0,0] U U<|Znl ?_;refine Zxr<|Zre (.t U .n) hS [2,2,1] 1 U U U U
def HZ (h:HD) (x:Msg):Bool:=decide (x.kind=11) && Ov h x.line x.src
def Vr (x:Msg):Ln:=⟨x.line,0,x.bs,x.hn⟩
def CI (h:HD) (l:List Msg):List Ln:=(l.filter (HZ h)).map Vr
def aM (h:HD) (n:Nat) (g:Option Ln):List Ln:=match g with|some x=>if Ov h x.num n=true then[x] else[]|none=>[]
def cd0:CD:=⟨0,0,0,[],none,none⟩
def Ce (h:HD) (D:List CD) (i:Nat):List Ln:=(List.range i).flatMap fun j=>aM h j (D.getD j cd0).giv
def GF (l:List Ln):List Ln:=l.filter fun x=>decide (x.state≠1)
def DO (D:List CD) (i:Nat):List Ln:=(D.take i).flatMap fun d=>GF (allL d.n d.L)
def Ed (m:MD):List Ln:=CI m.h m.q++Ce m.h m.D m.D.length++DO m.D m.D.length
theorem Jm {α:Type} {p:α→Bool} {l:List α} {i:Nat} (h:i<l.length):(l.take (i+1)).filter p=(l.take i).filter p++(if p l[i]=true then[l[i]] else[]):=by
 rw[←Co (gE h),List.filter_append];congr 1;cases hp:p l[i] with
 | true=>simp[hp]
 | false=>simp[hp]
theorem St {α:Type} {p:α→Bool} {l:List α} {i:Nat}:(l.take i).filter p <+: l.filter p:=(List.take_prefix i l).filter p
theorem KL {h:HD} {l:List Msg} {i:Nat} (hi:i<l.length):CI h (l.take (i+1))=CI h (l.take i)++(if HZ h l[i]=true then[Vr l[i]] else[]):=by unfold CI;rw[Jm hi,List.map_append];congr 1;split<;>rfl
theorem QS {m:MD} {i:Nat}:CI m.h (m.q.take i) <+: Ed m:=by unfold Ed;rw[List.append_assoc];exact(((List.take_prefix i m.q).filter _).map _).trans (List.prefix_append _ _)
theorem QU {h:HD} {D:List CD} {i:Nat}:Ce h D (i+1)=Ce h D i++aM h i (D.getD i cd0).giv:=by unfold Ce;rw[List.range_succ,List.flatMap_append];simp
theorem Q3 {i n:Nat} (h:i≤n):List.range i <+: List.range n:=by obtain⟨k,rfl⟩:=Nat.exists_eq_add_of_le h;rw[List.range_add];exact List.prefix_append _ _
theorem MT {α β:Type} {f:α→List β} {a b:List α} (h:a <+: b):a.flatMap f <+: b.flatMap f:=by obtain⟨c,rfl⟩:=h;rw[List.flatMap_append];exact List.prefix_append _ _
theorem QT {m:MD} {i:Nat} (h:i≤m.D.length):CI m.h m.q++Ce m.h m.D i <+: Ed m:=by unfold Ed;exact((List.prefix_append_right_inj _).2 (MT (Q3 h))).trans (List.prefix_append _ _)
theorem KM {D:List CD} {i:Nat} (hi:i<D.length):DO D (i+1)=DO D i++GF (allL D[i].n D[i].L):=by unfold DO;rw[←Co (gE hi),List.flatMap_append];simp
theorem QV {m:MD} {i k:Nat} (hi:i<m.D.length):CI m.h m.q++Ce m.h m.D m.D.length++(DO m.D i++GF ((allL m.D[i].n m.D[i].L).take k)) <+: Ed m:=by unfold Ed;refine(List.prefix_append_right_inj _).2 (List.IsPrefix.trans ((List.prefix_append_right_inj _).2 St) ?_);show DO m.D i++GF (allL m.D[i].n m.D[i].L) <+: _;rw[←KM hi];exact MT (by rw[List.take_length];exact List.take_prefix _ _)
theorem c55 (bp:Nat):Sp Tryz.prog 55 [pt bp] [] fun K=>∀b1,K (.returned (.func (.func 100) #[] #[pt b1])) [.blk b1 101 [pt bp]]:=by refine Zen Tryz.func55 U U U fun e X Φ hS=>Zsr<|Ze (ebx U) fun b1=>Zw<|Zy U<|Zns<|Zv (yfn U U)<|Zy U<|Znl ?_;refine Zxr<|Zre (.t U .n) (hS _) [0] 0 U U U U
theorem kG (k b1 bp:Nat) (m:MD) (hk:k≤1000):Sq Tryz.prog 100 [pt b1] [.blk b1 101 [pt bp],.hp (BJ k bp m)] (fun _=>[.blk b1 101 [pt bp],.hp (BJ k bp m)]) (fun x=>[.agg (lnE.arr x)]) (Ed m):=by
 refine⟨fun y J Jx hYd=>?_⟩;refine Zen Tryz.func100 U U U fun e X Φ hS=>Zoc 2 Cs U<|fun ok A cap B capb bn bh cb kb hl=>Zsr<|Zv (yfn U U)<|Zy U<|Aj<|Za 2 [8] U U ?_;refine Za 2 [2,0] U U ?_;have hCl:m.C.length≤4:=ok.n1;have hDl:=ok.d;have hm0:m.most≠0:=by have:=ok.m0;omega
 have hql:m.q.length≤1048576:=by have:=ok.q;have:=ok.m1;omega
 refine Zol 5 HJ U<|fun An capn=>Zol 1 Ee U<|fun hA hcp hcm=>Zk (c80 ..) [1,0] U U<|fun A'=>fun cap'=>Zq<|Zv (Aw ⟨_,Tryz.underlying112⟩ U)<|Zm U<|Znb ?_;refine Zfc [1,1] (C9 (b:=bn) (q:=m.q) U) U ?_
 refine Zlq (ι:={ i:Nat // i≤m.q.length }) (fun i=>[(21,.int .i64 (i.1:Int)),(20,.int .i64 (m.q.length:Int)),(19,.slice A' m.q.length cap'),(0,.func (.yield y) #[] #[]),(1,pt b1),(3,.func (.func 101) #[] #[pt b1])]) (fun i=>[.hp (own Al A' cap' m.q),.blk bp 108 [.slice A cb.length cap,.slice B kb.length capb,pt bn,pt bh],.blk b1 101 [pt bp],.hp (Ci k bh m.h),.hp (J (CI m.h (m.q.take i.1)))]) (fun i=>m.q.length-i.1) ⟨0,by omega⟩ ⟨U,U,U,U,U,U,trivial⟩ [1,1,7,5,5] U fun i=>Zsr<|Zv (ylt U U)<|Znq<|Zif U (fun h22=>?_) (fun h22=>?_)
 refine Zkn<|Zsq<|Zbl<|Zsr<|Zv (yea 0 own.rd U U U (by first|assumption|omega) U Tryz.underlying112 U)<|Zv (yel 0 own.rd U (gE (by first|assumption|omega)) U U U)<|Ze (eal Iy) fun b5=>Zw<|Ze (esw 0 (m:=20) U U U U U (Enc.len ..) (Enc.allL ..))<|Zw0<|Znl ?_;refine Zxs<|Za 4 [0,0] U U<|Zgs U U (fun h28=>?_) (fun h28=>?_);refine Zg' U U (dT h28)<|Zm U<|Zg' U U (dT h28)<|Zv (yf 3 U)<|Zg' U U (dT h28)<|Zv (yd 0 U U U)<|Zg' U U (dT h28)<|Zv (yf 1 U)<|Zg' U U (dT h28)<|Zv (yd 0 U U U) ?_;refine Zg' U U (dT h28) ?_;rotate_left
 refine Zu' U U (dF h28) U<|Zu' U U (dF h28) U<|Zu' U U (dF h28) U<|Zu' U U (dF h28) U<|Zu' U U (dF h28) U<|Zu' U U (dF h28) U<|Zv (Ao U (dF h28) U)<|Zb 3 U ?_;refine Zb 7 U<|Zn<|Zcf U ?_;refine Zsk<|Zxn<|Znx<|Zrg<|Zv (Ac U U (Ar U (by omega)))<|Zm U<|Znl ?_;rotate_left;refine Zex<|Zxt<|Zxt<|Zxx<|Zxq<|Zsr<|Za 3 [2,1] U U ?_;refine Zv (yd 1 U U U)<|Zv (Aw ⟨_,Tryz.underlying106⟩ U)<|Zm U<|Znb ?_;rotate_left
 ·have hlt:i.1<m.q.length:=by omega
  have hmn:=m.q[i.1].hn;have hs1:=KL (h:=m.h) hlt;refine Zkv (t:=29) (b1:=[]) (b2:=[pt b1]) (args:=[.int .u32 m.q[i.1].line,.int .i64 m.q[i.1].src]) (Y2 k b1 bp m.q[i.1].line m.q[i.1].src m.h bh (.slice A cb.length cap) (.slice B kb.length capb) (pt bn) hmn hk) [3,2,2] U U U U<|Zq ?_;generalize ho:Ov m.h m.q[i.1].line m.q[i.1].src=ob;refine Zv (Ax U (dT h28) U)<|Zm U<|Zgb U U (fun h36=>?_) (fun h36=>?_);refine Zg' U U h36<|Zm U<|Zg' U U h36<|Zv (yf 3 U)<|Zg' U U h36<|Zv (yd 3 U U U)<|Zg' U U h36<|Zv (yf 4 U)<|Zg' U U h36<|Zv (yda 3 (m:=16) U U (E2 _) (Enc.len ..)) ?_
  refine Zg' U U h36<|Zv (dN (by assumption) U)<|Zg' U U h36 ?_;rotate_left;refine Zu' U U h36 U<|Zu' U U h36 U<|Zu' U U h36 U<|Zu' U U h36 U<|Zu' U U h36 U<|Zu' U U h36 U<|Zu' U U h36 U<|Zu' U U h36 U<|Zv (Ao U h36 U)<|Znl ?_;refine Znx<|Zcf U<|Zsk<|Zxn<|Znx<|Zrg<|Zv (Ac U U (Ar U (by omega)))<|Zm U<|Znl ?_;rotate_left
  ·have hb:HZ m.h m.q[i.1]=true:=by simp[HZ,h28,ho,h36]
   rw[hb] at hs1;simp only[if_true] at hs1;have hpr:CI m.h (m.q.take i.1)++[Vr m.q[i.1]] <+: Ed m:=by rw[←hs1];exact QS
   refine Zyd (hYd (CI m.h (m.q.take i.1)) (Vr m.q[i.1]) hpr) 5 U U U ?_ ?_;refine Zg' U U h36<|Zv (BM U)<|Zv (Ax U h36 U)<|Zn<|Zcf U<|Zsk<|Zxn<|Znx<|Zrg ?_;refine Zv (Ac U U (Ar U (by omega)))<|Zm U<|Znl ?_;rotate_left;refine Zg' U U h36<|Zv (BM U)<|Zv (Ax U h36 U)<|Zn<|Zct U<|Zrt<|Zr2<|Zr1<|Zr1 ?_;refine Zr2<|Zr1 ?_;rotate_left
   ·rw[←hs1];refine Zlr ⟨i.1+1,hlt⟩ (by show m.q.length-(i.1+1)<m.q.length-i.1;omega) ⟨U,U,U,U,U,U,trivial⟩ [5,2,1,1,0] 1 U U
   ·refine Zfx [2,6,6,6,6,5,2] (AM (m:=m) ok hl) U ?_;refine Zre .n (hS.2 _ hpr) [1,1,0] 2 U U U U
  ·have hb:HZ m.h m.q[i.1]=false:=by simp[HZ,h28,ho,h36]
   rw[hb] at hs1;simp only[Bool.false_eq_true,if_false,List.append_nil] at hs1;rw[←hs1];refine Zlr ⟨i.1+1,hlt⟩ (by show m.q.length-(i.1+1)<m.q.length-i.1;omega) ⟨U,U,U,U,U,U,trivial⟩ [4,1,0,0,1] 1 U U
 ·have hlt:i.1<m.q.length:=by omega
  have hs1:=KL (h:=m.h) hlt;have hb:HZ m.h m.q[i.1]=false:=by simp[HZ,h28]
  rw[hb] at hs1;simp only[Bool.false_eq_true,if_false,List.append_nil] at hs1;rw[←hs1];refine Zlr ⟨i.1+1,hlt⟩ (by show m.q.length-(i.1+1)<m.q.length-i.1;omega) ⟨U,U,U,U,U,U,trivial⟩ [1,1,1,1,1] 1 U U
 ·have hi:i.1=m.q.length:=by have:=i.2;omega
  rw[show m.q.take i.1=m.q from List.take_of_length_le (by omega)];have hl2:kb.length=m.D.length:=by rw[hDl];exact hl.2
  refine Zlq (ι:={ j:Nat // j≤kb.length }) (fun j=>[(52,.int .i64 (j.1:Int)),(51,.int .i64 (kb.length:Int)),(50,.slice B kb.length capb),(0,.func (.yield y) #[] #[]),(1,pt b1),(3,.func (.func 101) #[] #[pt b1])]) (fun j=>[.hp (C3 (kb.zip m.D)),.blk bp 108 [.slice A cb.length cap,.slice B kb.length capb,pt bn,pt bh],.blk b1 101 [pt bp],.hp (Ci k bh m.h),.hp (J (CI m.h m.q++Ce m.h m.D j.1))]) (fun j=>kb.length-j.1) ⟨0,by omega⟩ ⟨U,U,U,U,U,U,trivial⟩ [9,1,1,1,1] (by rw[show Ce m.h m.D 0=[] from rfl,List.append_nil];rfl) fun j=>Zsr<|Zv (ylt U U)<|Znq<|Zif U (fun h53=>?_) (fun h53=>?_)
  refine Zkn<|Zsq<|Zbl<|Zsr<|Zm U<|Zv (yea 8 own.rd U U U (by first|assumption|omega) U Tryz.underlying106 U)<|Zv (yec (m:=0) 8 own.rd U (gE (by first|assumption|omega)) U U U)<|Zb 2 U ?_;refine Zns<|Zm U ?_;rotate_left;refine Zex<|Zxt<|Zxt<|Zxx<|Zxs<|Za 4 [2,1,1] U U ?_;refine Zv (Aw ⟨_,Tryz.underlying106⟩ U)<|Zm U<|Znb ?_;rotate_left
  ·have hjt:j.1<kb.length:=by omega
   have hki:=gE hjt;have hDi:=gE (l:=m.D) (k:=j.1) (by omega);have hz2:=De hki hDi;have hzl2:=(List.getElem?_eq_some_iff.1 hz2).1;have hs2:=QU (h:=m.h) (D:=m.D) (i:=j.1);have hgd:m.D.getD j.1 cd0=m.D[j.1]:=by rw[List.getD_eq_getElem?_getD,hDi];rfl
   rw[hgd] at hs2;refine Zol 0 (Ea hz2) U ?_;refine Zk (eC kb[j.1] m.D[j.1]) [0] U U<|Zq<|Zb 3 U<|Ze (eal Fd) fun b8=>Zw<|Ze (esw 0 (m:=18) U U U U U (Enc.len ..) (Enc.allL ..))<|Zw0<|Zy U<|Zn ?_;refine Zsr<|Zb 2 U<|Zgb U U (fun h63=>?_) (fun h63=>?_);refine Zg' U U h63<|Zm U<|Zg' U U h63<|Zv (yf 0 U)<|Zg' U U h63<|Zv (yd 0 U U U)<|Zg' U U h63<|Zm U<|Zg' U U h63 ?_;rotate_left;refine Zu' U U h63 U<|Zu' U U h63 U<|Zu' U U h63 U<|Zu' U U h63 U<|Zu' U U h63 U<|Zv (Ao U h63 U)<|Zb 4 U ?_;refine Zb 2 U<|Zn<|Zcf U<|Zsk<|Zxn<|Znx<|Zrg<|Zv (Ac U U (Ar U (by omega))) ?_
   refine Zm U<|Znl ?_;rotate_left
   ·obtain⟨x,hx⟩:∃x,m.D[j.1].giv=some x:=Option.isSome_iff_exists.1 h63;have hxd:m.D[j.1].giv.getD ln0=x:=by rw[hx];rfl
    rw[hxd];rw[hx] at hs2;have hxn:=x.hn;refine Zkv (t:=64) (b1:=[]) (b2:=[pt b1]) (args:=[.int .u32 x.num,.int .i64 (j.1:Int)]) (Y2 k b1 bp x.num (j.1:Int) m.h bh (.slice A cb.length cap) (.slice B kb.length capb) (pt bn) hxn hk) [4,3,3] U U U U<|Zq ?_;generalize ho:Ov m.h x.num (j.1:Int)=ob;refine Zv (Ax U h63 U)<|Zm U<|Zgb U U (fun h70=>?_) (fun h70=>?_);refine Zg' U U h70<|Zm U<|Zg' U U h70<|Zv (ydw 3 (m:=18) U U (Enc.len ..))<|Zg' U U h70 ?_;rotate_left;refine Zu' U U h70 U<|Zu' U U h70 U<|Zu' U U h70 U<|Zu' U U h70 U<|Zv (Ao U h70 U)<|Zn<|Zcf U<|Zsk<|Zxn ?_
    refine Znx<|Zrg<|Zv (Ac U U (Ar U (by omega)))<|Zm U<|Znl ?_;rotate_left
    ·have hs3:Ce m.h m.D (j.1+1)=Ce m.h m.D j.1++[x]:=by rw[hs2];show _++(if Ov m.h x.num _=true then[x] else[])=_;rw[ho,if_pos h70]
     have hpr:CI m.h m.q++Ce m.h m.D j.1++[x] <+: Ed m:=by rw[List.append_assoc,←hs3];exact QT (by omega)
     refine Zyd (hYd _ _ hpr) 6 U U U ?_ ?_;refine Zg' U U h70<|Zv (BM U)<|Zv (Ax U h70 U)<|Zn<|Zcf U<|Zsk<|Zxn<|Znx<|Zrg ?_;refine Zv (Ac U U (Ar U (by omega)))<|Zm U<|Znl ?_;rotate_left;refine Zg' U U h70<|Zv (BM U)<|Zv (Ax U h70 U)<|Zn<|Zct U<|Zrt<|Zr2<|Zr1<|Zr1 ?_;refine Zr2<|Zr1 ?_;rotate_left
     ·rw[List.append_assoc,←hs3];refine Zfx [5,5] (Dn hki hDi hzl2) U ?_;refine Zlr ⟨j.1+1,hjt⟩ (by show kb.length-(j.1+1)<kb.length-j.1;omega) ⟨U,U,U,U,U,U,trivial⟩ [0,2,1,1,0] 1 U U
     ·refine Zfx [5,5] (Dn hki hDi hzl2) U ?_;refine Zfx [3,7,7,7,0,5,2] (AM (m:=m) ok hl) U ?_;refine Zre .n (hS.2 _ hpr) [1,1,0] 2 U U U U
    ·have hs3:Ce m.h m.D (j.1+1)=Ce m.h m.D j.1:=by rw[hs2];show _++(if Ov m.h x.num _=true then[x] else[])=_;rw[ho,if_neg (by rw[h70];decide),List.append_nil]
     rw[←hs3];refine Zfx [4,4] (Dn hki hDi hzl2) U ?_;refine Zlr ⟨j.1+1,hjt⟩ (by show kb.length-(j.1+1)<kb.length-j.1;omega) ⟨U,U,U,U,U,U,trivial⟩ [0,1,0,0,1] 1 U U
   ·have hx:m.D[j.1].giv=none:=Option.not_isSome_iff_eq_none.1 (by rw[h63];decide);have hs3:Ce m.h m.D (j.1+1)=Ce m.h m.D j.1:=by rw[hs2,hx];exact List.append_nil _
    rw[←hs3];refine Zfx [1,1] (Dn hki hDi hzl2) U ?_;refine Zlr ⟨j.1+1,hjt⟩ (by show kb.length-(j.1+1)<kb.length-j.1;omega) ⟨U,U,U,U,U,U,trivial⟩ [0,1,1,1,1] 1 U U
  ·have hj:j.1=m.D.length:=by have:=j.2;omega
   rw[hj];refine Zlq (ι:={ i:Nat // i≤kb.length }) (fun i=>[(82,.int .i64 (i.1:Int)),(81,.int .i64 (kb.length:Int)),(80,.slice B kb.length capb),(0,.func (.yield y) #[] #[])]) (fun i=>[.hp (C3 (kb.zip m.D)),.hp (J (CI m.h m.q++Ce m.h m.D m.D.length++DO m.D i.1))]) (fun i=>kb.length-i.1) ⟨0,by omega⟩ ⟨U,U,U,U,trivial⟩ [0,3] (by rw[show DO m.D 0=[] from rfl,List.append_nil];rfl) fun i=>Zsr<|Zv (ylt U U)<|Znq<|Zif U (fun h83=>?_) (fun h83=>?_)
   refine Zkn<|Zsq<|Zbl<|Zsr<|Zv (yea 8 own.rd U U U (by first|assumption|omega) U Tryz.underlying106 U)<|Zv (yec (m:=0) 8 own.rd U (gE (by first|assumption|omega)) U U U)<|Zy U<|Zn ?_;refine Zsr<|Zm U ?_;rotate_left;refine Zex<|Zxt<|Zxt<|Zxx<|Zee ?_;rotate_left
   ·have hjt:i.1<kb.length:=by omega
    have hki:=gE hjt;have hDi:=gE (l:=m.D) (k:=i.1) (by omega);have hz2:=De hki hDi;have hzl2:=(List.getElem?_eq_some_iff.1 hz2).1;have hs3:=KM (D:=m.D) (i:=i.1) (by omega);refine Zol 0 (Ea hz2) U ?_;refine Zol 0 RX U<|fun okd=>?_;have hal:(allL m.D[i.1].n m.D[i.1].L).length≤1048576:=by rw[Fe okd.n0];exact Nat.le_trans okd.len (by decide)
    refine Zk (c23 kb[i.1] m.D[i.1]) [0] U U<|fun A_1=>fun cap_1=>Zq<|Zv (Aw ⟨_,Tryz.underlying79⟩ U)<|Zm U<|Znb ?_;refine Zfc [1,1] (Dn hki hDi hzl2) U ?_;have hpre:∀kk,CI m.h m.q++Ce m.h m.D m.D.length++(DO m.D i.1++GF ((allL m.D[i.1].n m.D[i.1].L).take kk)) <+: Ed m:=fun kk=>QV (by omega);generalize hl0:allL m.D[i.1].n m.D[i.1].L=l at hal hs3 hpre⊢
    refine Zlq (ι:={ k:Nat // k≤l.length }) (fun k=>[(89,.int .i64 (k.1:Int)),(88,.int .i64 (l.length:Int)),(87,.slice A_1 l.length cap_1),(82,.int .i64 (i.1:Int)),(81,.int .i64 (kb.length:Int)),(80,.slice B kb.length capb),(0,.func (.yield y) #[] #[])]) (fun k=>[.hp (own lnE A_1 cap_1 l),.hp (J (CI m.h m.q++Ce m.h m.D m.D.length++(DO m.D i.1++GF (l.take k.1))))]) (fun k=>l.length-k.1) ⟨0,by omega⟩ ⟨U,U,U,U,U,U,U,trivial⟩ [1,1] (by rw[show GF (l.take 0)=[] from rfl,List.append_nil];rfl) fun k=>Zsr<|Zv (ylt U U)<|Znq<|Zif U (fun h90=>?_) (fun h90=>?_)
    refine Zkn<|Zsq<|Zbl<|Zsr<|Zv (yea 0 own.rd U U U (by first|assumption|omega) U Tryz.underlying79 U)<|Zv (yel 0 own.rd U (gE (by first|assumption|omega)) U U U)<|Ze (eal Fd) fun b13=>Zw<|Ze (esw 0 (m:=18) U U U U U (Enc.len ..) (Enc.allL ..))<|Zw0<|Znl ?_;refine Zxs<|Za 4 [1,0] U U<|Zgs U U (fun h96=>?_) (fun h96=>?_);refine Zg' U U (dT h96)<|Zm U<|Zg' U U (dT h96)<|Zv (ydw 0 (m:=18) U U (Enc.len ..))<|Zg' U U (dT h96) ?_;rotate_left;refine Zu' U U (dF h96) U<|Zu' U U (dF h96) U<|Zu' U U (dF h96) U<|Zu' U U (dF h96) U<|Zv (Ao U (dF h96) U)<|Zn<|Zcf U<|Zsk<|Zxn ?_
    refine Znx<|Zrg<|Zv (Ac U U (Ar U (by omega)))<|Zm U<|Znl ?_;rotate_left;refine Zex<|Zxt<|Zxt<|Zxx<|Zxn<|Znx<|Zrg<|Zv (Ac U U (Ar U (by omega)))<|Zm U<|Znl ?_;rotate_left
    ·have hkt:k.1<l.length:=by omega
     have hs4:GF (l.take (k.1+1))=GF (l.take k.1)++[l[k.1]]:=by refine(Jm hkt).trans ?_;rw[if_pos (by simpa using h96)];rfl
     have hpr:CI m.h m.q++Ce m.h m.D m.D.length++(DO m.D i.1++GF (l.take k.1))++[l[k.1]] <+: Ed m:=by have h9:=hpre (k.1+1);rw[hs4,←List.append_assoc (DO m.D i.1),←List.append_assoc (CI m.h m.q++Ce m.h m.D m.D.length)] at h9;exact h9
     have hs5:CI m.h m.q++Ce m.h m.D m.D.length++(DO m.D i.1++GF (l.take k.1))++[l[k.1]]=CI m.h m.q++Ce m.h m.D m.D.length++(DO m.D i.1++GF (l.take (k.1+1))):=by rw[hs4,List.append_assoc (CI m.h m.q++Ce m.h m.D m.D.length),List.append_assoc (DO m.D i.1)]
     refine Zyd (hYd _ _ hpr) 2 U U U ?_ ?_;refine Zg' U U (dT h96)<|Zv (BM U)<|Zv (Ax U (dT h96) U)<|Zn<|Zcf U<|Zsk<|Zxn<|Znx<|Zrg ?_;refine Zv (Ac U U (Ar U (by omega)))<|Zm U<|Znl ?_;rotate_left;refine Zg' U U (dT h96)<|Zv (BM U)<|Zv (Ax U (dT h96) U)<|Zn<|Zct U<|Zrt<|Zr2<|Zr1<|Zr1 ?_;refine Zr2<|Zr2<|Zr1<|Zr1<|Zr2 ?_;rotate_left
     ·rw[hs5];refine Zlr ⟨k.1+1,hkt⟩ (by show l.length-(k.1+1)<l.length-k.1;omega) ⟨U,U,U,U,U,U,U,trivial⟩ [2,0] 1 U U
     ·refine Zfx [4,8,8,8,3,6,4] (AM (m:=m) ok hl) U ?_;refine Zre .n (hS.2 _ hpr) [1,3,0] 3 U U U U
    ·have hkt:k.1<l.length:=by omega
     have hs4:GF (l.take (k.1+1))=GF (l.take k.1):=by refine(Jm hkt).trans ?_;rw[if_neg (by simpa using h96),List.append_nil];rfl
     rw[←hs4];refine Zlr ⟨k.1+1,hkt⟩ (by show l.length-(k.1+1)<l.length-k.1;omega) ⟨U,U,U,U,U,U,U,trivial⟩ [1,1] 1 U U
    ·have hk2:k.1=l.length:=by have:=k.2;omega
     rw[show l.take k.1=l from List.take_of_length_le (by omega),←hs3];refine Zlr ⟨i.1+1,hjt⟩ (by show kb.length-(i.1+1)<kb.length-i.1;omega) ⟨U,U,U,U,trivial⟩ [2,1] 1 U U
   ·have hi:i.1=m.D.length:=by have:=i.2;omega
    rw[hi,show CI m.h m.q++Ce m.h m.D m.D.length++DO m.D m.D.length=Ed m from rfl];refine Zfx [2,6,6,6,0,4,2] (AM (m:=m) ok hl) U ?_;refine Zre .n hS.1 [1,1,0] 1 U U U U
def setB (bs:List Int) (x:Ln):List Int:=if x.num.toNat<bs.length/16 then setF bs x.num.toNat x.bs.1 else bs
def Nf (m:MD):List Int:=(Ed m).foldl setB m.h.bs
theorem TP (bs:List Int) (x:Ln):(setB bs x).length=bs.length:=by
 unfold setB;split
 ·have:=x.bs.2.1;simp[setF];omega
 ·rfl
theorem HR:∀(l:List Ln) (bs:List Int),(l.foldl setB bs).length=bs.length
 | [],_=>rfl
 | x::l,bs=>(HR l (setB bs x)).trans (TP bs x)
theorem Q8 (bs:List Int) (l:List Ln) (x:Ln):(l++[x]).foldl setB bs=setB (l.foldl setB bs) x:=by rw[List.foldl_append];rfl
theorem iJ (b:Nat) (l:List Int) (x:Ln) (hl:l.length≤1048576):Sp Tryz.prog 56 [pt b,.int .u32 x.num,.agg (bsE.cells x.bs).toArray] [.hp (Bx b l)] fun K=>∀e,K (.returned (.int .i64 e)) [.hp (Bx b (setB l x))]:=⟨fun e X w Φ hp hS=>by
 have hn:=x.hn;have hc:=c56 b x.num.toNat l x.bs.1 x.bs.2.1 hl (by omega);rw[show((x.num.toNat:Nat):Int)=x.num by omega] at hc;refine hc.run e X w Φ hp ⟨fun h=>?_,fun h=>?_⟩
 ·have:=hS 0;rwa[show setB l x=setF l x.num.toNat x.bs.1 from if_pos h] at this
 ·have:=hS 4
  rwa[show setB l x=l from if_neg (by omega)] at this⟩
theorem c20 (k b:Nat) (m:MD) (hk:k≤1000):Sp Tryz.prog 20 [pt b] [.hp (A4 k b m)] fun K=>∀b',K (.returned (pt b')) [.hp (Bx b' (Nf m)),.hp (A4 k b m)]:=by
 refine J2 Tryz.func20 U U U fun e X Φ hS=>Zsr<|Zy U<|Aj<|Zm U<|Zk (c35 ..) [0] U U<|Zq ?_;refine Zn<|Zcf U<|Zks<|Za 3 [0] U U ?_;refine Zol 0 E0 U<|fun bp=>Zv (yd 0 U U U)<|Za 2 [3] U U ?_;refine Zol 1 Cs U<|fun ok A cap B capb bn bh cb kb hl=>Zv (yd 0 U U U)<|Zk (c25 ..) [6] U U<|fun b'=>Zq<|Ze (eal z28) fun b3=>Zw<|Ze (es 0 U U U U U)<|Zw0<|Znq ?_;refine Zsr<|Za 4 [0,9] U U<|Zk (c55 ..) [] U U<|fun b1=>Zq<|Zn ?_;refine Zbl ?_;refine Zoc 3 SP U<|fun hok=>?_;have hbl:m.h.bs.length≤1048576:=hok.l;refine Zfc [4,4,4,4,4,4,0] (AM (m:=m) ok hl) U ?_
 refine Zrf (kG k b1 bp m hk) (fun pre=>[.blk b3 28 [pt b'],.hp (Bx b' (pre.foldl setB m.h.bs))]) (fun _=>True) (fun _=>[]) (fun _=>False) (fun _ _=>[]) (fun _ _=>False) [1,0,0,0] U U trivial (fun e' y pre x F hx _=>?_) (fun D _=>?_) (fun _ _ _ h=>h.elim) (fun _ _ _ _ h=>h.elim) (fun _=>U) (by decide);refine Zrg<|Ze (eal Fd) fun b4=>Zw<|Ze (esw 0 (m:=18) U U U U U (Enc.len ..) (Enc.allL ..))<|Zw0<|Znl<|Zak 3 U fun F'=>Zbl<|Zrg<|Za 3 [1,0,0] U U ?_;refine Zv (yf 2 U)<|Zv (yda 0 (m:=16) U U (LA _) (Enc.len ..)) ?_;rotate_left;refine Zxn<|Zxs<|Za 2 [1] U U<|Znr<|Zmk 0 U ?_;rotate_left
 ·have hpl:(pre.foldl setB m.h.bs).length≤1048576:=by rw[HR];exact hbl
  refine Zk (iJ b' (pre.foldl setB m.h.bs) x hpl) [2] U U<|fun e_1=>Zq<|Znl<|Zxn ?_;rw[←Q8];refine Zrn trivial [2,0] 1 U U
 ·rw[show(Ed m).foldl setB m.h.bs=Nf m from rfl];refine Zfx [4,3] (B9 (b:=b) (m:=m)) U<|Zre (.t U .n) (hS _) [2,0] 2 U U U U
theorem PM {k b:Nat} {m:MD}:Op_ (A4 k b m) fun K=>m.Ok k→HOk k m.h→K [.hp (A4 k b m)] := .mk fun G K h hh=>by have h0:=hh;obtain⟨bp,hs⟩:=hh;obtain⟨_,_,hp⟩:=hs.nth (i:=1) rfl;obtain⟨ok,A,cap,B,capb,bn,bh,cb,kb,hl,hs2⟩:=hp;obtain⟨_,_,hq⟩:=hs2.nth (i:=6) rfl;exact⟨_,K ok hq.1,BN h0⟩
theorem Vu {k:Nat} {m:MD} (h:HOk k m.h):(Nf m).length≤1048576:=by unfold Nf;rw[HR];exact h.l
end Go.Proofs.YtpfijldkkfiooaaGreatDoor
