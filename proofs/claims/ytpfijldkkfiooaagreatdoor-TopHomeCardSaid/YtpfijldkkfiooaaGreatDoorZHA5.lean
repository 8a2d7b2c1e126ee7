/-
  Part 5 of what the claim stands on: walks through the code, plain laws.
-/
import Derived.Test.YtpfijldkkfiooaaGreatDoorZHA4
set_option linter.unusedVariables false
set_option linter.unusedSimpArgs false
namespace Go.Proofs.YtpfijldkkfiooaaGreatDoor
open Go
set_option maxRecDepth 4000
section
variable {P:Program} {r:Option Nat} {N:Nat × List Deferred} {T:Tb} {e:World} {Q:Exit→Act→World→Prop} {os:List Oper} {fuel:Nat} {listed:Array Bool} {S M:List Ck}
theorem Zh3 (i j m:Nat) (hr:Region.ready .any os.toArray listed=[i,j,m]) (h:ZO P r os Q fuel listed N T e S M i) (h':ZO P r os Q fuel listed N T e S M j) (h2:ZO P r os Q fuel listed N T e S M m):ZH P r os Q (fuel+1) listed N T e S M:=fun w hp ok a fr=>
 fx_each hr (by simp) fun k hk=>by
  rw [List.mem_cons,List.mem_cons,List.mem_singleton] at hk
  rcases hk with rfl | rfl | rfl
  ·exact h w hp ok a fr
  ·exact h' w hp ok a fr
  ·exact h2 w hp ok a fr
end
def commitF (c:Cor) (w:Int) (x:Ans) (own:Int):Cor × Did:=(c.setH (cmtF c.h w c.size x).1,⟨1,(cmtF c.h w c.size x).1.id,(cmtF c.h w c.size x).2.1,sto0,own⟩)
theorem Cor.Ok.commit {k:Nat} {c:Cor} (ok:c.Ok k) (w:Int) (x:Ans) (own:Int):(commitF c w x own).1.Ok k:={ ok with h:=cmt_ok w c.size x ok.h }
theorem c245 (b bc bk k:Nat) (pick w own:Int) (a:Acc) (x:Ans) (c:Cor):Sp Tryz.prog 245 [pt b,.agg (ansE.arr x),.int .i64 own] [.blk b 294 (actCs bc bk pick w a),.hp (corC k bc c),spC] fun K=>K (.returned (.agg (didE.arr (commitF c w x own).2))) [.blk b 294 (actCs bc bk pick w a),.hp (corC k bc (commitF c w x own).1),spC]:=by
 refine Zen Tryz.func245 U U U fun e X Φ hS=>Zoc 1 cor_op U<|fun ok A cap bb pr hpr=>?_
 have okh:=ok.h
 refine Zsr<|Ze (ebxE U) fun b4=>Zw<|Ze (eal z53) fun b6=>Zw<|Zn ?_
 refine Zjq (ι:=Nat × Nat) (fun p=>[(0,pt b),(2,.int .i64 own),(6,pt b6),(7,pt p.1),(8,pt p.2)]) (fun p=>[.blk p.1 59 (hrtE.cells (cmtF c.h w c.size x).1),.blk p.2 49 (comE.cells (cmtF c.h w c.size x).2.1),.blk b6 53 (didE.cells did0),.blk bc 139 (coreCs c.h (corTl c A cap bb pr)),.hp (Go.Proofs.YtpfijldkkfiooaaGreatDoor.own u32E A cap c.code),.hp (bufC bb c.B),.hp (resC pr c.res),.blk b 294 (actCs bc bk pick w a),spC]) X ?_ fun p=>?_
 rotate_left
 refine Zsq ?_
 rotate_left
 ·refine Zhd [7] U U<|Zht 0 U (ym U)<|Zht 1 U (yn U)<|Zht 2 U (yf 0 U)<|Zht 3 U (yd 6 U U U)<|Zht 4 U (yn U)<|Zht 5 U (yf 0 U)<|Zht 6 U (yf 0 U)<|Zht 7 U (yda 2 (m:=35) U U (core_hart _ _) (Enc.len ..))<|Zht 8 U (ym U) ?_
  refine Zht 9 U (yn U)<|Zht 10 U (yf 3 U)<|Zht 11 U (yd 6 U U U)<|Zht 12 U (ym U)<|Zht 13 U (yn U)<|Zht 14 U (yf 0 U)<|Zht 15 U (yd 6 U U U)<|Zht 16 U (yn U)<|Zht 17 U (yf 0 U)<|Zht 18 U (yf 36 U) ?_
  refine Zht 19 U (yd 2 U U (nt_core 1 U U))<|Zht 20 U (ydw 1 (m:=2) U U (Enc.len ..)) ?_
  refine Zh3 21 26 27 (by kernel_rfl) (Zok (c130 c.h w c.size x okh) [0] U U U<|Zqh 1 U ?_) (Zoe U (eal z59) fun b7=>Zwh 2 U ?_) (Zoe U (eal z49) fun b8=>Zwh 2 U ?_)
  ·refine Zht 22 U (ym U)<|Zht 23 U (yx U U)<|Zht 24 U (yx U U)<|Zht 25 U (yx U U)<|ZH2 26 27 (Zoe U (eal z59) fun b7=>Zwh 2 U ?_) (Zoe U (eal z49) fun b8=>Zwh 2 U ?_)
   refine ZH1 27<|Zoe U (eal z49) fun b8=>Zwh 3 U<|ZH1 28<|Zoe U (esw 1 (m:=35) U U U U U (Enc.len ..) (Enc.allL ..))<|Zwh0 3 U<|ZH1 29<|Zoe U (esw 0 (m:=14) U U U U U (Enc.len ..) (Enc.allL ..))<|Zwh0 3 U<|Zht 30 U (ya U)<|ZHn ?_
   rotate_left
   refine ZH1 26<|Zoe U (eal z59) fun b7=>Zwh 3 U<|ZH1 28<|Zoe U (esw 0 (m:=35) U U U U U (Enc.len ..) (Enc.allL ..))<|Zwh0 3 U<|ZH1 29<|Zoe U (esw 1 (m:=14) U U U U U (Enc.len ..) (Enc.allL ..))<|Zwh0 3 U<|Zht 30 U (ya U)<|ZHn ?_
   rotate_left
   ·refine Zjr (b7,b8) ⟨U,U,U,U,U,trivial⟩ [1,0,1,2,2,2,2,2,0] 1 U U
   ·refine Zjr (b7,b8) ⟨U,U,U,U,U,trivial⟩ [0,0,1,2,2,2,2,2,0] 1 U U
  ·refine ZH2 21 27 (Zok (c130 ..) [1] U U U ?_) (Zoe U (eal z49) fun b8=>Zwh 3 U ?_)
   refine Zqh 2 U<|Zht 22 U (ym U)<|Zht 23 U (yx U U)<|Zht 24 U (yx U U)<|Zht 25 U (yx U U)<|ZH1 27<|Zoe U (eal z49) fun b8=>Zwh 3 U<|ZH1 28<|Zoe U (esw 2 (m:=35) U U U U U (Enc.len ..) (Enc.allL ..))<|Zwh0 3 U<|ZH1 29<|Zoe U (esw 0 (m:=14) U U U U U (Enc.len ..) (Enc.allL ..))<|Zwh0 3 U<|Zht 30 U (ya U)<|ZHn ?_
   rotate_left
   refine ZH1 21<|Zok (c130 ..) [2] U U U<|Zqh 3 U<|Zht 22 U (ym U)<|Zht 23 U (yx U U)<|Zht 24 U (yx U U)<|Zht 25 U (yx U U)<|ZH1 28<|Zoe U (esw 2 (m:=35) U U U U U (Enc.len ..) (Enc.allL ..))<|Zwh0 3 U<|ZH1 29<|Zoe U (esw 1 (m:=14) U U U U U (Enc.len ..) (Enc.allL ..))<|Zwh0 3 U<|Zht 30 U (ya U)<|ZHn ?_
   rotate_left
   ·refine Zjr (b7,b8) ⟨U,U,U,U,U,trivial⟩ [2,0,1,2,2,2,2,2,0] 1 U U
   ·refine Zjr (b7,b8) ⟨U,U,U,U,U,trivial⟩ [2,1,1,2,2,2,2,2,0] 1 U U
  ·refine ZH2 21 26 (Zok (c130 ..) [1] U U U ?_) (Zoe U (eal z59) fun b7=>Zwh 3 U ?_)
   refine Zqh 2 U<|Zht 22 U (ym U)<|Zht 23 U (yx U U)<|Zht 24 U (yx U U)<|Zht 25 U (yx U U)<|ZH1 26<|Zoe U (eal z59) fun b7=>Zwh 3 U<|ZH1 28<|Zoe U (esw 0 (m:=35) U U U U U (Enc.len ..) (Enc.allL ..))<|Zwh0 3 U<|ZH1 29<|Zoe U (esw 2 (m:=14) U U U U U (Enc.len ..) (Enc.allL ..))<|Zwh0 3 U<|Zht 30 U (ya U)<|ZHn ?_
   rotate_left
   refine ZH1 21<|Zok (c130 ..) [2] U U U<|Zqh 3 U<|Zht 22 U (ym U)<|Zht 23 U (yx U U)<|Zht 24 U (yx U U)<|Zht 25 U (yx U U)<|ZH1 28<|Zoe U (esw 1 (m:=35) U U U U U (Enc.len ..) (Enc.allL ..))<|Zwh0 3 U<|ZH1 29<|Zoe U (esw 2 (m:=14) U U U U U (Enc.len ..) (Enc.allL ..))<|Zwh0 3 U<|Zht 30 U (ya U)<|ZHn ?_
   rotate_left
   ·refine Zjr (b7,b8) ⟨U,U,U,U,U,trivial⟩ [0,1,1,2,2,2,2,2,0] 1 U U
   ·refine Zjr (b7,b8) ⟨U,U,U,U,U,trivial⟩ [1,1,1,2,2,2,2,2,0] 1 U U
 ·refine Zhd [3] U U<|Zht 0 U (ym U)<|Zht 1 U (yn U)<|Zht 2 U (yf 0 U)<|Zht 3 U (yd 6 U U U)<|Zht 4 U (ydw 0 (m:=35) U U (Enc.len ..))<|Zht 5 U (yn U)<|Zht 6 U (yf 0 U)<|Zht 7 U (yf 0 U) ?_
  refine ZH1 8<|Zoe U (esc 0 (m:=35) U U U (core_set _ _ _) U (Enc.len ..) (by rw [core_len rfl];exact Nat.le_of_ble_eq_true rfl) (Enc.allL ..))<|Zwh0 1 U<|ZHn<|Zxs<|Za 2 [0,1] U U<|Zv (ydw 2 (m:=14) U U (Enc.len ..))<|Zm U<|Zv (yb l53 U)<|Ze (esw 3 (m:=20) U U U U (Enc.len ..) U U)<|Zw0 ?_
  refine Znr ?_
  refine Zfx [0,3,3,3] (cor_fold (c:=(commitF c w x own).1) (ok.commit w x own)) U<|Zre (.wh 3 (m:=20) U U U .n) hS [4,0,3] 3 U U U U
theorem c248 (b bc bk:Nat) (pick w:Int) (a:Acc) (d:CD) (ha:U32 a.addr) (hp : -9223372036854775808≤pick∧pick≤9223372036854775807):Sp Tryz.prog 248 [pt b] [.blk b 294 (actCs bc bk pick w a),.hp (cacC bk d)] fun K=>
  ((readF d.L a.addr a.width).2=0→K (.returned (.int .u32 (readF d.L a.addr a.width).1)) [.blk b 294 (actCs bc bk pick w a),.hp (cacC bk d)]) ∧
  ((readF d.L a.addr a.width).2≠0→∀ A cap,K (.panicked (stopC A (askF d (a.addr/16) (u32_q ha).2 false pick).2.1.length cap)) [.hp (own msgE A cap (askF d (a.addr/16) (u32_q ha).2 false pick).2.1),.blk b 294 (actCs bc bk pick w a),.hp (cacC bk (askF d (a.addr/16) (u32_q ha).2 false pick).1)]):=by
 have q:=(u32_q ha).1
 refine Zen Tryz.func248 U U U fun e X Φ hS=>Zsr<|Zy U<|Znq ?_
 refine Zhd [1] U U<|Zht 0 U (ym U)<|Zht 1 U (yn U)<|Zht 2 U (yf 1 U)<|Zht 3 U (yd 0 U U U)<|Zht 4 U (ym U)<|Zht 5 U (yn U)<|Zht 6 U (yf 4 U)<|Zht 7 U (yf 1 U)<|Zht 8 U (yd 0 U U U) ?_
 refine Zht 9 U (ym U)<|Zht 10 U (yn U)<|Zht 11 U (yf 4 U)<|Zht 12 U (yf 2 U)<|Zht 13 U (yd 0 U U U) ?_
 refine ZH1 14<|Zok (c252 bk d a.addr a.width ha) [0] U U U<|Zqh 1 U<|Zht 15 U (ym U)<|Zht 16 U (yx U U)<|Zht 17 U (yx U U)<|Zht 18 U (ya U)<|Zht 19 U (ya U)<|ZHn<|Zxq ?_
 refine Zsr<|Zb 2 U<|Zn<|Zif U (fun h24=>?_) (fun h24=>?_)
 refine Zrg<|Zb 2 U ?_
 rotate_left
 refine Zks<|Zb 2 U<|Znr ?_
 rotate_left
 ·refine Zk (c296 b bc bk pick w a ha) [1] U U<|Zq ?_
  refine Zk (c188 b bc bk pick w (a.addr/16) false a d (u32_q ha).2 hp) [0,0] U U<|fun A=>fun cap=>Zqp<|Zp1 ?_
  refine Zpe (hS.2 h24 _ _) [0,0,0] 0 U U
 ·refine Zre (.t U .n) (hS.1 (Decidable.not_not.1 h24)) [1,0] 0 U U U U
theorem c251 (b bc bk:Nat) (pick w:Int) (a:Acc) (d:CD) (ha:U32 a.addr) (hp : -9223372036854775808≤pick∧pick≤9223372036854775807):Sp Tryz.prog 251 [pt b] [.blk b 294 (actCs bc bk pick w a),.hp (cacC bk d)] fun K=>
  (writesB (stateOf d.L (a.addr/16))=true→K (.returned (.tuple #[])) [.blk b 294 (actCs bc bk pick w a),.hp (cacC bk d)]) ∧
  (writesB (stateOf d.L (a.addr/16))=false→∀ A cap,K (.panicked (stopC A (askF d (a.addr/16) (u32_q ha).2 true pick).2.1.length cap)) [.hp (own msgE A cap (askF d (a.addr/16) (u32_q ha).2 true pick).2.1),.blk b 294 (actCs bc bk pick w a),.hp (cacC bk (askF d (a.addr/16) (u32_q ha).2 true pick).1)]):=by
 refine Zen Tryz.func251 U U U fun e X Φ hS=>Zsq ?_
 refine Zhd [0,0] U U<|Zht 0 U (ym U)<|Zht 1 U (yn U)<|Zht 2 U (yf 1 U)<|Zht 4 U (ym U) ?_
 refine ZH2 3 5 (Zov U (yd 0 U U U) ?_) (Zok (c296 b bc bk pick w a ha) [0] U U U<|Zqh 2 U ?_)
 ·refine ZH1 5<|Zok (c296 b bc bk pick w a ha) [0] U U U<|Zqh 2 U ?_
  refine ZH1 6<|Zok (c97 bk d (a.addr/16) (u32_q ha).2) [1] U U U<|Zqh 2 U<|Zht 7 U (ya U)<|ZHn<|Zxs<|Zb 3 U<|Zgs U U (fun h12=>?_) (fun h12=>?_)
  refine Zg' U U (dT h12)<|Zm U<|Zg' U U (dT h12)<|Zv (yne U U)<|Zv (ypt' U (dT h12) U)<|Zn<|Zif U (fun h15=>?_) (fun h15=>?_)
  refine Zrg<|Zb 2 U ?_
  rotate_left
  refine Zsk<|Zee ?_
  rotate_left
  refine Zu' U U (dF h12) U<|Zu' U U (dF h12) U<|Zv (ypf' U (dF h12) U)<|Zn<|Zcf U<|Zsk<|Zee ?_
  rotate_left
  ·refine Zk (c296 b bc bk pick w a ha) [1] U U<|Zq ?_
   refine Zk (c188 b bc bk pick w (a.addr/16) true a d (u32_q ha).2 hp) [0,0] U U<|fun A=>fun cap=>Zqp ?_
   refine Zpe (hS.2 (by simp [writesB,h12,h15]) _ _) [0,0,0] 0 U U
  ·refine Zre .n (hS.1 (by simp [writesB,Decidable.not_not.1 h15])) [1,0] 0 U U U U
  ·refine Zre .n (hS.1 (by simp [writesB,Decidable.not_not.1 h12])) [1,0] 0 U U U U
 ·refine ZH1 3<|Zov U (yd 0 U U U) ?_
  refine ZH1 6<|Zok (c97 bk d (a.addr/16) (u32_q ha).2) [1] U U U<|Zqh 2 U<|Zht 7 U (ya U)<|ZHn<|Zxs<|Zb 3 U<|Zgs U U (fun h12=>?_) (fun h12=>?_)
  refine Zg' U U (dT h12)<|Zm U<|Zg' U U (dT h12)<|Zv (yne U U)<|Zv (ypt' U (dT h12) U)<|Zn<|Zif U (fun h15=>?_) (fun h15=>?_)
  refine Zrg<|Zb 2 U ?_
  rotate_left
  refine Zsk<|Zee ?_
  rotate_left
  refine Zu' U U (dF h12) U<|Zu' U U (dF h12) U<|Zv (ypf' U (dF h12) U)<|Zn<|Zcf U<|Zsk<|Zee ?_
  rotate_left
  ·refine Zk (c296 b bc bk pick w a ha) [1] U U<|Zq ?_
   refine Zk (c188 b bc bk pick w (a.addr/16) true a d (u32_q ha).2 hp) [0,0] U U<|fun A=>fun cap=>Zqp ?_
   refine Zpe (hS.2 (by simp [writesB,h12,h15]) _ _) [0,0,0] 0 U U
  ·refine Zre .n (hS.1 (by simp [writesB,Decidable.not_not.1 h15])) [1,0] 0 U U U U
  ·refine Zre .n (hS.1 (by simp [writesB,Decidable.not_not.1 h12])) [1,0] 0 U U U U
def bwd (l:List Sto):List (Nat × Sto):=(List.range l.length).map fun j=>(l.length-1-j,l.getD (l.length-1-j) sto0)
theorem bwd_len (l:List Sto):(bwd l).length=l.length:=by simp [bwd]
theorem bwd_at {l:List Sto} {j:Nat} (h:j<l.length):(bwd l)[j]? = some (l.length-1-j,l.getD (l.length-1-j) sto0):=by
 unfold bwd
 rw [List.getElem?_map,List.getElem?_range h]
 rfl
abbrev idE (p:Nat × Sto):List Value:=[.int .i64 (p.1:Int),.agg (stoE.arr p.2)]
theorem q347 (b1:Nat) (A:Option Addr) (cap:Nat) (l:List Sto) (hl:l.length≤4):Sq Tryz.prog 347 [pt b1] [.blk b1 73 [.slice A l.length cap],.hp (own stoE A cap l)] (fun _=>[.blk b1 73 [.slice A l.length cap],.hp (own stoE A cap l)]) idE (bwd l):=by
 refine ⟨fun y J Jx hYd=>?_⟩
 refine Zen Tryz.func347 U U U fun e X Φ hS=>Zsr<|Zv (yd 1 U U U)<|Zv (sl_of ⟨_,Tryz.underlying73⟩ U)<|Zv (ysub U U (i64w U (by omega)))<|Zy U<|Znb ?_
 refine Zlq (ι:={ i:Nat // i≤l.length }) (fun i=>[(3,.int .i64 ((l.length:Int)-1-(i.1:Int))),(0,.func (.yield y) #[] #[]),(1,pt b1)]) (fun i=>[.hp (J ((bwd l).take i.1)),.blk b1 73 [.slice A l.length cap],.hp (own stoE A cap l)]) (fun i=>l.length-i.1) ⟨0,by omega⟩ ?_ [0,0,0] U fun i=>?_
 rotate_left
 refine Zsq<|Zsr<|Zb 2 U<|Zn<|Zif U (fun h8=>?_) (fun h8=>?_)
 refine Zkn<|Zsq<|Zbl<|Zsr<|Za 4 [1] U U ?_
 rotate_left
 refine Zex<|Zxt<|Zxt<|Zxx<|Zee ?_
 rotate_left
 ·refine ⟨?_,rfl,rfl,trivial⟩
  show some _=some _
  simp
 ·have hlt:i.1<l.length:=by omega
  have e1:(l.length:Int)-1-(i.1:Int)=((l.length-1-i.1:Nat):Int):=by omega
  have hx:(bwd l).take i.1++[(l.length-1-i.1,l.getD (l.length-1-i.1) sto0)] <+: bwd l:=by rw [take_snc (bwd_at hlt)];exact List.take_prefix _ _
  have hg:l[l.length-1-i.1]? = some (l.getD (l.length-1-i.1) sto0):=by rw [List.getD_eq_getElem?_getD,List.getElem?_eq_getElem (by omega)];rfl
  rw [e1]
  refine Zv (yea 2 own.rd U U U (by first | assumption | omega) U Tryz.underlying73 U)<|Zv (yel 2 own.rd U (by assumption) U U U) ?_
  refine Zyd (hYd _ _ hx) 0 U U U ?_ ?_
  refine Zv (ynot U)<|Zn<|Zcf U<|Zsk<|Zxn<|Znx<|Zrg<|Zm U<|Zv (ysub U U (i64w U (by omega))) ?_
  refine Zy U<|Znl ?_
  rotate_left
  refine Zv (ynot U)<|Zn<|Zct U<|Zrt<|Zr2<|Zr1<|Zr1<|Zr2 ?_
  rotate_left
  ·rw [take_snc (bwd_at hlt),show ((l.length-1-i.1:Nat):Int)-1=(l.length:Int)-1-((i.1+1:Nat):Int) by omega]
   refine Zlr ⟨i.1+1,by omega⟩ (by show l.length-(i.1+1)<l.length-i.1;omega) ⟨U,U,U,trivial⟩ [0,0,0] 0 U U
  ·refine Zre .n (hS.2 _ hx) [0,0,0] 0 U U U U
 ·have hi:=i.2
  rw [List.take_of_length_le (show (bwd l).length≤i.1 by rw [bwd_len];omega)]
  refine Zre .n hS.1 [0,0,0] 0 U U U U
theorem c295 (A:Option Addr) (cap n:Nat):Sp Tryz.prog 295 [.slice A n cap] [] fun K=>∀ b1,K (.returned (.func (.func 347) #[] #[pt b1])) [.blk b1 73 [.slice A n cap]]:=by
 refine Zen Tryz.func295 U U U fun e X Φ hS=>Zsr<|Ze (ebx U) fun b1=>Zw<|Zy U<|Zns<|Zv (yfn U U)<|Zy U<|Znl ?_
 refine Zxr<|Zre (.t U .n) (hS _) [0] 0 U U U U
def hitB (a w:Int) (s:Sto):Bool:=decide (s.addr<w32 (a+w32 w)) && decide (a<w32 (s.addr+w32 s.width))
def tellV (f a w:Int) (xs:List (Nat × Sto)):Int:=match xs.find? (fun p=>hitB a w p.2) with | some p=>f+p.1 | none => -1
def tellF (c:Cor) (a:Acc):Int:=tellV c.first a.addr a.width (bwd c.B)
theorem tell_none {f a w:Int} {xs:List (Nat × Sto)} (h:∀ p∈xs,hitB a w p.2=false):tellV f a w xs = -1:=by
 unfold tellV
 rw [List.find?_eq_none.2 fun p hp=>by simp [h p hp]]
theorem tell_some {a w:Int} {xs:List (Nat × Sto)} {p:Nat × Sto} (h:∀ p∈xs,hitB a w p.2=false) (hp:hitB a w p.2=true):(xs++[p]).find? (fun p=>hitB a w p.2)=some p:=by
 rw [List.find?_append,List.find?_eq_none.2 fun p hp=>by simp [h p hp]]
 simp [hp]
theorem bwd_mem {l:List Sto} {pre:List (Nat × Sto)} {x:Nat × Sto} (h:pre++[x] <+: bwd l):x.1≤l.length:=by
 have hm:x∈bwd l:=h.subset (by simp)
 obtain ⟨j,hj,rfl⟩:=List.mem_map.1 hm
 show l.length-1-j≤l.length
 omega
theorem tell_pre {f a w:Int} {xs pre:List (Nat × Sto)} {p:Nat × Sto} (h:pre <+: xs) (hp:pre.find? (fun p=>hitB a w p.2)=some p):tellV f a w pre=tellV f a w xs:=by
 unfold tellV
 rw [hp,h.find?_eq_some hp]
theorem miss_step {a w:Int} {pre:List (Nat × Sto)} {x:Nat × Sto} (h:∀ p∈pre,hitB a w p.2=false) (hx:hitB a w x.2=false):∀ p∈pre++[x],hitB a w p.2=false:=fun p hp=>by
 rcases List.mem_append.1 hp with hp | hp
 ·exact h p hp
 ·rw [List.mem_singleton] at hp;subst hp;exact hx
theorem c247 (b bc bk k:Nat) (pick w:Int) (a:Acc) (c:Cor) (hk:k≤1000000):Sp Tryz.prog 247 [pt b] [.blk b 294 (actCs bc bk pick w a),.hp (corC k bc c)] fun K=>K (.returned (.int .i64 (tellF c a))) [.blk b 294 (actCs bc bk pick w a),.hp (corC k bc c)]:=by
 refine ZenM Tryz.func247 U U U fun e X Φ hS=>Zoc 1 cor_op U<|fun ok A cap bb pr hpr=>Zoc 2 buf_le U<|fun h4 hal=>Zsr<|Ze (ebx U) fun b1=>Zw<|Zy U<|Zn<|Zscp<|Zsr<|Za 2 [0] U U ?_
 refine Za 4 [0,5,37] U U<|Zv (yd 2 U U (nt_core 2 U U))<|Zk (c54 ..) [1] U U<|fun A_1=>fun cap_1=>Zq<|Zy U ?_
 refine Zns<|Ze (eal z3) fun b4=>Zw<|Ze (es 0 U U U U U)<|Zw0<|Znq<|Zlb<|Znx ?_
 refine Zsq<|Zsr<|Zm U<|Zk (c295 ..) [] U U<|fun b1_1=>Zq<|Znb ?_
 refine Zrf (q347 b1_1 A_1 cap_1 c.B h4) (fun pre=>[.blk b4 3 [.int .i64 (tellV c.first a.addr a.width pre)],.blk b1 292 [pt b],.blk bc 139 (coreCs c.h (corTl c A cap bb pr)),.blk b 294 (actCs bc bk pick w a)]) (fun pre=>∀ p∈pre,hitB a.addr a.width p.2=false) (fun _=>[]) (fun _=>False) (fun _ pre=>[.blk b4 3 [.int .i64 (tellV c.first a.addr a.width pre)],.blk b1 292 [pt b],.blk bc 139 (coreCs c.h (corTl c A cap bb pr)),.blk b 294 (actCs bc bk pick w a)]) (fun id pre=>id=0∧∃ p,pre.find? (fun p=>hitB a.addr a.width p.2)=some p) [0,1,0,1,1,3] U U ?_ (fun e' y pre x F hx hn=>?_) (fun D hn=>?_) (fun D pre hx hp=>?_) (fun D id pre hx hp=>?_) (fun _=>U) (by decide)
 refine fun p=>fun a_1=>?_
 rotate_left
 refine Zsr<|Zy U<|Zn<|Zrg<|Ze (eal z51) fun b6=>Zw<|Ze (esw 0 (m:=3) U U U U U (Enc.len ..) (Enc.allL ..))<|Zw0<|Znl<|Zak 5 U fun F'=>Zbl ?_
 refine Zsq<|Zhd [] U U<|Zht 0 U (yf 0 U)<|Zht 1 U (yd 0 U U U)<|Zht 2 U (yd 2 U U U)<|Zht 3 U (yn U)<|Zht 4 U (yf 4 U)<|Zht 5 U (yf 1 U)<|Zht 6 U (yd 4 U U U)<|Zht 7 U (yd 2 U U U) ?_
 refine Zht 8 U (yn U)<|Zht 9 U (yf 4 U)<|Zht 10 U (yf 2 U)<|Zht 11 U (yd 4 U U U)<|Zht 12 U (ycv Tryz.underlying3 Tryz.underlying40 U U)<|Zht 13 U (yadd U U U)<|Zht 14 U (ylt U U)<|Zht 15 U (ym U)<|Zhgs 16 U U U (fun h34=>?_) (fun h34=>?_)
 refine Zhg 16 U U (lkn U (dT h34)) (yd 2 U U U)<|Zhg 17 U U (lkn U (dT h34)) (yn U)<|Zhg 18 U U (lkn U (dT h34)) (yf 4 U)<|Zhg 19 U U (lkn U (dT h34)) (yf 1 U)<|Zhg 20 U U (lkn U (dT h34)) (yd 4 U U U)<|Zhg 21 U U (lkn U (dT h34)) (yf 0 U)<|Zhg 22 U U (lkn U (dT h34)) (yd 0 U U U)<|Zhg 23 U U (lkn U (dT h34)) (yf 1 U)<|Zhg 24 U U (lkn U (dT h34)) (yd 0 U U U)<|Zhg 25 U U (lkn U (dT h34)) (ycv Tryz.underlying3 Tryz.underlying40 U U) ?_
 refine Zhg 26 U U (lkn U (dT h34)) (yadd U U U)<|Zhg 27 U U (lkn U (dT h34)) (ylt U U)<|Zht 28 U (ypt' U (dT h34) U)<|ZHn<|Znx<|Zif U (fun h47=>?_) (fun h47=>?_)
 refine Zsr<|Za 6 [2,0,4,38] U U<|Zv (yd 3 U U (nt_core 3 U U))<|Zm U<|Zv (yadd U U U) ?_
 refine Ze (es 1 U U U U U)<|Zw0<|Zn<|Zex<|Zxb U ?_
 rotate_left
 refine Zsk<|Zxn ?_
 rotate_left
 refine Zhu 16 U U (lkn U (dF h34)) U<|Zhu 17 U U (lkn U (dF h34)) U<|Zhu 18 U U (lkn U (dF h34)) U<|Zhu 19 U U (lkn U (dF h34)) U<|Zhu 20 U U (lkn U (dF h34)) U<|Zhu 21 U U (lkn U (dF h34)) U<|Zhu 22 U U (lkn U (dF h34)) U<|Zhu 23 U U (lkn U (dF h34)) U<|Zhu 24 U U (lkn U (dF h34)) U<|Zhu 25 U U (lkn U (dF h34)) U ?_
 refine Zhu 26 U U (lkn U (dF h34)) U<|Zhu 27 U U (lkn U (dF h34)) U<|Zht 28 U (ypf' U (dF h34) U)<|ZHn<|Znx<|Zcf U<|Zsk<|Zxn ?_
 rotate_left
 refine Zxn<|Zxs<|Za 2 [1] U U<|Znr<|Zgr<|Zmk 0 U ?_
 rotate_left
 refine Zrt<|Zr2<|Zr1<|Zgr<|Zmk 0 U ?_
 rotate_left
 refine Zex ?_
 rotate_left
 ·exact absurd (by assumption:_∈([]:List (Nat × Sto))) List.not_mem_nil
 ·have hh:hitB a.addr a.width x.2=true:=by unfold hitB w32;rw [dT h34,dT h47];rfl
  have hf:=tell_some hn hh
  have e2:IntKind.i64.wrap (c.first+x.1)=tellV c.first a.addr a.width (pre++[x]):=by
   have h1:=bwd_mem hx
   have h2:=ok.f0
   have h3:=ok.f1
   unfold tellV
   rw [hf]
   show _=c.first+(x.1:Int)
   exact i64w rfl (by omega)
  rw [e2]
  refine Zrx ⟨U,_,hf⟩ [1,1,1,1] 1 U U
 ·have hh:hitB a.addr a.width x.2=false:=by unfold hitB w32;rw [dF h47,Bool.and_false]
  have hm:=miss_step hn hh
  rw [tell_none hn,← tell_none (f:=c.first) hm]
  refine Zrn hm [1,1,1,1] 1 U U
 ·have hh:hitB a.addr a.width x.2=false:=by unfold hitB w32;rw [dF h34,Bool.false_and]
  have hm:=miss_step hn hh
  rw [tell_none hn,← tell_none (f:=c.first) hm]
  refine Zrn hm [1,1,1,1] 1 U U
 ·refine Zfx [2,6,5,5] (cor_fold (c:=c) ok) U<|Zre (.t U .n) hS [3,0] 4 U U U U
 ·exact hp.elim
 ·obtain ⟨rfl,p,hp⟩:=hp
  rw [tell_pre hx hp]
  refine Zxx<|Zxs<|Za 2 [1] U U<|Znr<|Zgr<|Zmk 0 U ?_
  refine Zfx [2,6,5,5] (cor_fold (c:=c) ok) U<|Zre (.t U .n) hS [3,0] 4 U U U U
abbrev ARes:=Cor × CD × Except (List Msg) Did
abbrev actL (b bc bk k:Nat) (pick w:Int) (a:Acc) (c:Cor) (d:CD):List Ck:=[.blk b 294 (actCs bc bk pick w a),.hp (corC k bc c),.hp (cacC bk d),spC]
def AcS (b bc bk k:Nat) (pick w:Int) (a:Acc) (r:ARes) (K:Out):Prop:=match r.2.2 with
 | .ok did=>K (.returned (.agg (didE.arr did))) (actL b bc bk k pick w a r.1 r.2.1)
 | .error ms=>∀ A cap,K (.panicked (stopC A ms.length cap)) (.hp (own msgE A cap ms)::actL b bc bk k pick w a r.1 r.2.1)
def doneR (c:Cor) (d:CD) (w:Int) (x:Ans) (o:Int):ARes:=((commitF c w x o).1,d,.ok (commitF c w x o).2)
def failR (c:Cor) (d:CD) (ms:List Msg):ARes:=(c,d,.error ms)
theorem c214 (b bc bk k:Nat) (pick w:Int) (a:Acc) (c:Cor):Sp Tryz.prog 214 [pt b] [.blk b 294 (actCs bc bk pick w a),.hp (corC k bc c),spC] fun K=>K (.returned (.agg (didE.arr (commitF c w ans0 (-1)).2))) [.blk b 294 (actCs bc bk pick w a),.hp (corC k bc (commitF c w ans0 (-1)).1),spC]:=by
 refine Zen Tryz.func214 U U U fun e X Φ hS=>?_
 refine Zsr<|Ze (eal z53) fun b2=>Zw<|Zns<|Zm U<|Zv (yb l46 U) ?_
 refine Zk (c245 b bc bk k pick w (-1) a ans0 c) [1,1,1] U U<|Zq<|Ze (esw 3 (m:=20) U U U U U (Enc.len ..) (Enc.allL ..))<|Zw0<|Znr<|Zre (.wh 3 (m:=20) U U (Enc.len ..) .n) hS [0,0,0] 1 U U U U
def stoA (a:Acc):Sto:=⟨a.addr,a.width,a.value⟩
def storeR (c:Cor) (d:CD) (w:Int) (a:Acc):ARes:=if pushE c.B (stoA a)=0 then doneR (c.setB (pushL c.B (stoA a))) d w ans0 (-1) else failR (c.setB (pushL c.B (stoA a))) d []
theorem c216 (b bc bk k:Nat) (pick w:Int) (a:Acc) (c:Cor) (d:CD) (ao:a.Ok):Sp Tryz.prog 216 [pt b] (actL b bc bk k pick w a c d) (AcS b bc bk k pick w a (storeR c d w a)):=by
 have so:(stoA a).Ok:=⟨ao.ad,ao.va⟩
 refine Zen Tryz.func216 U U U fun e X Φ hS=>Zoc 1 cor_op U<|fun ok A cap bb pr hpr=>?_
 refine Zsr<|Ze (eal z53) fun b2=>Zw<|Znq ?_
 refine Zhd [3] U U<|Zht 0 U (ym U)<|Zht 1 U (yn U)<|Zht 2 U (yf 0 U)<|Zht 3 U (yd 4 U U U)<|Zht 4 U (yn U)<|Zht 5 U (yf 37 U)<|Zht 6 U (yd 1 U U (nt_core 2 U U))<|Zht 7 U (ym U)<|Zht 8 U (yn U) ?_
 refine Zht 9 U (yf 4 U)<|Zht 10 U (yf 1 U)<|Zht 11 U (yd 4 U U U)<|Zht 12 U (ym U)<|Zht 13 U (yn U)<|Zht 14 U (yf 4 U)<|Zht 15 U (yf 2 U)<|Zht 16 U (yd 4 U U U)<|Zht 17 U (ym U)<|Zht 18 U (yn U) ?_
 refine Zht 19 U (yf 4 U)<|Zht 20 U (yf 3 U)<|Zht 21 U (yd 4 U U U)<|Zht 22 U (yb l51 U) ?_
 have ok':(c.setB (pushL c.B (stoA a))).Ok k:=⟨ok.h,ok.cu,ok.cl,ok.s0,ok.s1,ok.f0,ok.f1,ok.res⟩
 refine ZH1 23<|Zok (c249 bb c.B (stoA a) so) [0] U U U<|Zqh 1 U<|Zht 24 U (yeq U U)<|ZH1 25<|Zok (c186 ..) [] U U U<|⟨?_,?_⟩
 refine fun a_1=>Zqh 1 rfl <| Zhn (by kernel_rfl) <| Znx <| Zsr <| Zv (ym rfl) ?_
 rotate_left
 refine fun a_1=>Zqhp <| Zp1 ?_
 rotate_left
 ·rw [show storeR c d w a=doneR (c.setB (pushL c.B (stoA a))) d w ans0 (-1) from if_pos (of_decide_eq_true a_1)] at hS
  dsimp only [AcS,doneR] at hS
  refine Zfl [2,2,0,1] (cor_fold (c:=c.setB (pushL c.B (stoA a))) ok') U<|Zk (c214 ..) [2,0,2] U U<|Zq<|Ze (esw 3 (m:=20) U U U U U (Enc.len ..) (Enc.allL ..))<|Zw0<|Znr<|Zre (.wh 3 (m:=20) U U (Enc.len ..) .n) hS [0,0,2,0] 1 U U U U
 ·rw [show storeR c d w a=failR (c.setB (pushL c.B (stoA a))) d [] from if_neg (of_decide_eq_false a_1)] at hS
  dsimp only [AcS,failR] at hS
  refine Zfx [2,2,0,1] (cor_fold (c:=c.setB (pushL c.B (stoA a))) ok') U ?_
  refine Zix (fun _ hs=>sep_nil (E:=msgE) hs) ?_
  refine Zpe (hS none 0) [0,2,0,1,1] 1 U U
def fenceR (c:Cor) (d:CD) (w:Int):ARes:=if c.B=[] then doneR c d w ans0 (-1) else failR c d []
theorem c217 (b bc bk k:Nat) (pick w:Int) (a:Acc) (c:Cor) (d:CD):Sp Tryz.prog 217 [pt b] (actL b bc bk k pick w a c d) (AcS b bc bk k pick w a (fenceR c d w)):=by
 refine Zen Tryz.func217 U U U fun e X Φ hS=>?_
 refine Zsr<|Ze (eal z53) fun b2=>Zw<|Zns<|Zm U<|Zk (c250 ..) [1,1] U U<|⟨?_,?_⟩
 refine fun a_1=>Zq <| Znl <| Znx <| Zsr <| Zv (ym rfl) <| Zk (c214 ..) [0,0,2] rfl rfl <| Zq <| Ze (esw 3 (m:=20) rfl rfl rfl rfl rfl (Enc.len ..) (Enc.allL ..)) <| Zw0 <| Znl ?_
 refine Zxr ?_
 rotate_left
 refine fun a_1=>Zqp <| Zp1 ?_
 rotate_left
 ·rw [show fenceR c d w=doneR c d w ans0 (-1) from if_pos a_1] at hS
  dsimp only [AcS,doneR] at hS
  refine Zre (.wh 3 (m:=20) U U (Enc.len ..) .n) hS [0,0,2,0] 1 U U U U
 ·rw [show fenceR c d w=failR c d [] from if_neg a_1] at hS
  dsimp only [AcS,failR] at hS
  refine Zix (fun _ hs=>sep_nil (E:=msgE) hs) ?_
  refine Zpe (hS none 0) [0,0,0,1,1] 1 U U
instance (n:Int):Decidable (U32 n):=inferInstanceAs (Decidable (0≤n∧n<4294967296))
def askA (d:CD) (a:Acc) (wr:Bool) (pick:Int):CD × List Msg × Int:=if h:U32 a.addr then askF d (a.addr/16) (u32_q h).2 wr pick else (d,[],0)
def askR (c:Cor) (d:CD) (a:Acc) (wr:Bool) (pick:Int):ARes:=failR c (askA d a wr pick).1 (askA d a wr pick).2.1
def cachR (c:Cor) (d:CD) (w pick:Int) (a:Acc):ARes:=if (readF d.L a.addr a.width).2=0 then doneR c d w ⟨(readF d.L a.addr a.width).1,false⟩ (-1) else askR c d a false pick
theorem ask_eq {d:CD} {a:Acc} {wr:Bool} {pick:Int} (h:U32 a.addr):askA d a wr pick=askF d (a.addr/16) (u32_q h).2 wr pick:=dif_pos h
def loadR (c:Cor) (d:CD) (w pick:Int) (a:Acc):ARes:=
 if (fwd c.B a.addr a.width).2=2 then failR c d []
 else if (fwd c.B a.addr a.width).2=1 then doneR c d w ⟨(fwd c.B a.addr a.width).1,false⟩ (tellF c a)
 else cachR c d w pick a
theorem c215 (b bc bk k:Nat) (pick w:Int) (a:Acc) (c:Cor) (d:CD) (ao:a.Ok) (hp : -9223372036854775808≤pick∧pick≤9223372036854775807) (hk:k≤1000000):Sp Tryz.prog 215 [pt b] (actL b bc bk k pick w a c d) (AcS b bc bk k pick w a (loadR c d w pick a)):=by
 refine Zen Tryz.func215 U U U fun e X Φ hS=>Zoc 1 cor_op U<|fun ok A cap bb pr hpr=>?_
 refine Zsr<|Ze (eal z53) fun b2=>Zw<|Znq ?_
 refine Zhd [3] U U<|Zht 0 U (ym U)<|Zht 1 U (yn U)<|Zht 2 U (yf 0 U)<|Zht 3 U (yd 4 U U U)<|Zht 4 U (yn U)<|Zht 5 U (yf 37 U)<|Zht 6 U (yd 1 U U (nt_core 2 U U))<|Zht 7 U (ym U)<|Zht 8 U (yn U) ?_
 refine Zht 9 U (yf 4 U)<|Zht 10 U (yf 1 U)<|Zht 11 U (yd 4 U U U)<|Zht 12 U (ym U)<|Zht 13 U (yn U)<|Zht 14 U (yf 4 U)<|Zht 15 U (yf 2 U)<|Zht 16 U (yd 4 U U U) ?_
 refine ZH1 17<|Zok (c246 bb c.B a.addr a.width ao.ad) [0] U U U<|Zqh 1 U<|Zht 18 U (ym U)<|Zht 19 U (yx U U)<|Zht 20 U (yx U U)<|Zht 21 U (ya U)<|Zht 22 U (ya U)<|ZHn<|Zxs ?_
 refine Zb 2 U<|Zk (c186 ..) [] U U<|⟨?_,?_⟩
 refine fun a_1=>Zq <| Znl <| Znx ?_
 rotate_left
 refine fun a_1=>Zqp <| Zp1 ?_
 rotate_left
 ·refine Zfc [2,2,0,1] (cor_fold (c:=c) ok) U<|Zsq<|Zsr<|Zb 2 U<|Zn<|Zif U (fun h30=>?_) (fun h30=>?_)
  refine Zsr<|Zb 2 U<|Zv (yb l46 U)<|Zm U ?_
  rotate_left
  refine Zks<|Zb 2 U ?_
  rotate_left
  ·have h2:¬ (fwd c.B a.addr a.width).2=2:=of_decide_eq_true a_1
   rw [show loadR c d w pick a=doneR c d w ⟨(fwd c.B a.addr a.width).1,false⟩ (tellF c a) from (if_neg h2).trans (if_pos h30)] at hS
   dsimp only [AcS,doneR] at hS
   refine Zk (c247 b bc bk k pick w a c hk) [2,0] U U<|Zq ?_
   refine Zk (c245 b bc bk k pick w (tellF c a) a ⟨(fwd c.B a.addr a.width).1,false⟩ c) [0,0,2] U U<|Zq<|Ze (esw 3 (m:=20) U U U U U (Enc.len ..) (Enc.allL ..))<|Zw0<|Znr<|Zr1<|Zre (.wh 3 (m:=20) U U (Enc.len ..) .n) hS [0,0,2,0] 1 U U U U
  ·have h2:¬ (fwd c.B a.addr a.width).2=2:=of_decide_eq_true a_1
   rw [show loadR c d w pick a=cachR c d w pick a from (if_neg h2).trans (if_neg h30)] at hS
   refine Zk (c248 b bc bk pick w a d ao.ad hp) [2,2] U U<|⟨?_,?_⟩
   refine fun a_2=>Zq <| Zv (yb l46 rfl) ?_
   rotate_left
   refine fun a_2=>fun A_1=>fun cap_1=>Zqp <| Zp1 ?_
   rotate_left
   ·rw [show cachR c d w pick a=doneR c d w ⟨(readF d.L a.addr a.width).1,false⟩ (-1) from if_pos a_2] at hS
    dsimp only [AcS,doneR] at hS
    refine Zk (c245 b bc bk k pick w (-1) a ⟨(readF d.L a.addr a.width).1,false⟩ c) [0,1,2] U U<|Zq<|Ze (esw 4 (m:=20) U U U U U (Enc.len ..) (Enc.allL ..))<|Zw0<|Znr<|Zre (.wh 4 (m:=20) U U (Enc.len ..) .n) hS [0,0,1,0] 1 U U U U
   ·rw [show cachR c d w pick a=askR c d a false pick from if_neg a_2] at hS
    dsimp only [AcS,askR,failR] at hS
    rw [ask_eq ao.ad] at hS
    refine Zpe (hS _ _) [0,0,1,0,1] 1 U U
 ·have h2:(fwd c.B a.addr a.width).2=2:=Decidable.not_not.1 (of_decide_eq_false a_1)
  rw [show loadR c d w pick a=failR c d [] from if_pos h2] at hS
  dsimp only [AcS,failR] at hS
  refine Zfx [2,2,0,1] (cor_fold (c:=c) ok) U ?_
  refine Zix (fun _ hs=>sep_nil (E:=msgE) hs) ?_
  refine Zpe (hS none 0) [0,2,0,1,1] 1 U U
def lrR (c:Cor) (d:CD) (w pick:Int) (a:Acc):ARes:=
 if c.B=[] then (if (readF d.L a.addr a.width).2=0 then doneR (c.setR (some a.addr)) d w ⟨(readF d.L a.addr a.width).1,false⟩ (-1) else askR c d a false pick) else failR c d []
theorem c218 (b bc bk k:Nat) (pick w:Int) (a:Acc) (c:Cor) (d:CD) (ao:a.Ok) (hp : -9223372036854775808≤pick∧pick≤9223372036854775807):Sp Tryz.prog 218 [pt b] (actL b bc bk k pick w a c d) (AcS b bc bk k pick w a (lrR c d w pick a)):=by
 refine Zen Tryz.func218 U U U fun e X Φ hS=>?_
 refine Zsr<|Ze (eal z53) fun b2=>Zw<|Zns<|Zm U<|Zk (c250 ..) [1,1] U U<|⟨?_,?_⟩
 refine fun a_1=>Zq <| Znl <| Znx <| Zsr <| Zv (ym rfl) ?_
 rotate_left
 refine fun a_1=>Zqp <| Zp1 ?_
 rotate_left
 ·refine Zk (c248 b bc bk pick w a d ao.ad hp) [0,2] U U<|⟨?_,?_⟩
  refine fun a_2=>Zq <| Zv (ya rfl) <| Znl <| Znx <| Zsr <| Zv (ym rfl) <| Zv (yn rfl) <| Zv (yf 4 rfl) <| Zv (yf 1 rfl) ?_
  refine Zv (yd 0 U U U)<|Ze (eal z40) fun b4=>Zw<|Ze (es 0 U U U U U)<|Zw0<|Zns<|Za 4 [0,1] U U ?_
  refine Za 2 [39] U U ?_
  rotate_left
  refine fun a_2=>fun A=>fun cap=>Zqp <| Zp1 ?_
  rotate_left
  ·rw [show lrR c d w pick a=doneR (c.setR (some a.addr)) d w ⟨(readF d.L a.addr a.width).1,false⟩ (-1) from (if_pos a_1).trans (if_pos a_2)] at hS
   dsimp only [AcS,doneR] at hS
   refine Zol 3 cor_op U<|fun ok A cap bb pr hpr=>Ze (es 0 U U U (pt_core 4 U U) U)<|Zw0<|Zns<|Zb 2 U<|Zv (yb l46 U) ?_
   have ok':(c.setR (some a.addr)).Ok k:=⟨ok.h,ok.cu,ok.cl,ok.s0,ok.s1,ok.f0,ok.f1,fun x h=>by cases h;exact ao.ad⟩
   refine Zfl [4] (res_s (a:=some a.addr) (b:=b4) (x:=a.addr) U) U ?_
   refine Zfl [1,1,1,0] (cor_fold (c:=c.setR (some a.addr)) ok') U ?_
   refine Zk (c245 b bc bk k pick w (-1) a ⟨(readF d.L a.addr a.width).1,false⟩ (c.setR (some a.addr))) [2,0,3] U U<|Zq<|Ze (esw 5 (m:=20) U U U U U (Enc.len ..) (Enc.allL ..))<|Zw0<|Znr<|Zre (.wh 5 (m:=20) U U (Enc.len ..) .n) hS [0,0,2,0] 2 U U U U
  ·rw [show lrR c d w pick a=askR c d a false pick from (if_pos a_1).trans (if_neg a_2)] at hS
   dsimp only [AcS,askR,failR] at hS
   rw [ask_eq ao.ad] at hS
   refine Zpe (hS _ _) [0,0,1,0,1] 1 U U
 ·rw [show lrR c d w pick a=failR c d [] from if_neg a_1] at hS
  dsimp only [AcS,failR] at hS
  refine Zix (fun _ hs=>sep_nil (E:=msgE) hs) ?_
  refine Zpe (hS none 0) [0,0,0,1,1] 1 U U
theorem ask_eq' {d:CD} {a:Acc} {wr:Bool} {pick:Int} (h:U32 a.addr):askA d a wr pick=askF d (a.addr/16) (u32_q h).2 wr pick:=dif_pos h
def keptB (c:Cor) (a:Acc):Bool:=match c.res with | some x=>decide (x=a.addr) | none=>false
def scR (c:Cor) (d:CD) (w pick:Int) (a:Acc):ARes:=
 if c.B≠[] then failR c d []
 else if keptB c a=true then (if writesB (stateOf d.L (a.addr/16))=true then doneR (c.setR none) (writeF d a.addr a.width a.value).1 w ⟨0,true⟩ (-1) else askR c d a true pick)
 else doneR (c.setR none) d w ⟨0,false⟩ (-1)
def amoR (c:Cor) (d:CD) (w pick:Int) (a:Acc):ARes:=
 if c.B≠[] then failR c d []
 else if writesB (stateOf d.L (a.addr/16))=true then doneR c (writeF d a.addr a.width (amoF a.op (readF d.L a.addr a.width).1 a.value).1).1 w ⟨(readF d.L a.addr a.width).1,false⟩ (-1)
 else askR c d a true pick
theorem c220 (b bc bk k:Nat) (pick w:Int) (a:Acc) (c:Cor) (d:CD) (ao:a.Ok) (hp : -9223372036854775808≤pick∧pick≤9223372036854775807):Sp Tryz.prog 220 [pt b] (actL b bc bk k pick w a c d) (AcS b bc bk k pick w a (amoR c d w pick a)):=by
 refine Zen Tryz.func220 U U U fun e X Φ hS=>?_
 refine Zsr<|Ze (eal z53) fun b2=>Zw<|Zns<|Zm U<|Zk (c250 ..) [1,1] U U<|⟨?_,?_⟩
 refine fun a_1=>Zq <| Znl <| Znx <| Zsr <| Zv (ym rfl) ?_
 rotate_left
 refine fun a_1=>Zqp <| Zp1 ?_
 rotate_left
 ·refine Zk (c251 b bc bk pick w a d ao.ad hp) [0,2] U U<|⟨?_,?_⟩
  refine fun a_2=>Zq <| Znl <| Znx <| Zsq ?_
  rotate_left
  refine fun a_2=>fun A=>fun cap=>Zqp <| Zp1 ?_
  rotate_left
  ·rw [show amoR c d w pick a=doneR c (writeF d a.addr a.width (amoF a.op (readF d.L a.addr a.width).1 a.value).1).1 w ⟨(readF d.L a.addr a.width).1,false⟩ (-1) from (if_neg (fun h=>h a_1)).trans (if_pos a_2)] at hS
   dsimp only [AcS,doneR] at hS
   refine Zhd [1] U U<|Zht 0 U (ym U)<|Zht 1 U (yn U)<|Zht 2 U (yf 1 U)<|Zht 3 U (yd 0 U U U)<|Zht 4 U (ym U)<|Zht 5 U (yn U)<|Zht 6 U (yf 4 U)<|Zht 7 U (yf 1 U)<|Zht 8 U (yd 0 U U U) ?_
   refine Zht 9 U (ym U)<|Zht 10 U (yn U)<|Zht 11 U (yf 4 U)<|Zht 12 U (yf 2 U)<|Zht 13 U (yd 0 U U U) ?_
   refine ZH1 14<|Zok (c252 bk d a.addr a.width ao.ad) [0] U U U<|Zqh 1 U<|Zht 15 U (ym U)<|Zht 16 U (yx U U)<|Zht 17 U (yx U U)<|Zht 18 U (ya U)<|Zht 19 U (ya U)<|ZHn<|Zxq ?_
   refine Zhd [] U U<|Zht 0 U (ym U)<|Zht 1 U (yn U)<|Zht 2 U (yf 4 U)<|Zht 3 U (yf 4 U)<|Zht 4 U (yd 1 U U U)<|Zht 5 U (ym U)<|Zht 6 U (ym U)<|Zht 7 U (yn U)<|Zht 8 U (yf 4 U) ?_
   refine Zht 9 U (yf 3 U)<|Zht 10 U (yd 1 U U U)<|ZH1 11<|Zok (c253 ..) [] U U U<|fun x=>fun e_1=>fun a_3=>Zqh 0 U<|Zht 12 U (ym U)<|Zht 13 U (yx U U)<|Zht 14 U (yx U U) ?_
   refine Zht 15 U (ya U)<|Zht 16 U (ya U)<|ZHn<|Zxq ?_
   rw [a_3] at hS
   refine Zhd [0] U U<|Zht 0 U (ym U)<|Zht 1 U (yn U)<|Zht 2 U (yf 1 U)<|Zht 3 U (yd 0 U U U)<|Zht 4 U (ym U)<|Zht 5 U (yn U)<|Zht 6 U (yf 4 U)<|Zht 7 U (yf 1 U)<|Zht 8 U (yd 0 U U U) ?_
   refine Zht 9 U (ym U)<|Zht 10 U (yn U)<|Zht 11 U (yf 4 U)<|Zht 12 U (yf 2 U)<|Zht 13 U (yd 0 U U U)<|Zht 14 U (ym U) ?_
   refine ZH1 15<|Zok (c187 bk d a.addr a.width x ao.ad) [0] U U U<|Zqh 1 U<|ZHn<|Zxs<|Zb 2 U<|Zv (yb l46 U) ?_
   refine Zk (c245 b bc bk k pick w (-1) a ⟨(readF d.L a.addr a.width).1,false⟩ c) [1,1,2] U U<|Zq<|Ze (esw 4 (m:=20) U U U U U (Enc.len ..) (Enc.allL ..))<|Zw0<|Znr<|Zre (.wh 4 (m:=20) U U (Enc.len ..) .n) hS [0,0,1,0] 1 U U U U
  ·rw [show amoR c d w pick a=askR c d a true pick from (if_neg (fun h=>h a_1)).trans (if_neg (by rw [a_2];decide))] at hS
   dsimp only [AcS,askR,failR] at hS
   rw [ask_eq' ao.ad] at hS
   refine Zpe (hS _ _) [0,0,1,0,1] 1 U U
 ·rw [show amoR c d w pick a=failR c d [] from if_pos a_1] at hS
  dsimp only [AcS,failR] at hS
  refine Zix (fun _ hs=>sep_nil (E:=msgE) hs) ?_
  refine Zpe (hS none 0) [0,0,0,1,1] 1 U U
theorem c219 (b bc bk k:Nat) (pick w:Int) (a:Acc) (c:Cor) (d:CD) (ao:a.Ok) (hp : -9223372036854775808≤pick∧pick≤9223372036854775807):Sp Tryz.prog 219 [pt b] (actL b bc bk k pick w a c d) (AcS b bc bk k pick w a (scR c d w pick a)):=by
 refine Zen Tryz.func219 U U U fun e X Φ hS=>?_
 refine Zsr<|Ze (eal z53) fun b2=>Zw<|Zns<|Zm U<|Zk (c250 ..) [1,1] U U<|⟨?_,?_⟩
 refine fun a_1=>Zq <| Znl <| Znx <| Zsq ?_
 rotate_left
 refine fun a_1=>Zqp <| Zp1 ?_
 rotate_left
 ·refine Zoc 1 cor_op U<|fun ok A cap bb pr hpr=>?_
  have ok':(c.setR none).Ok k:=⟨ok.h,ok.cu,ok.cl,ok.s0,ok.s1,ok.f0,ok.f1,fun x h=>(by cases h)⟩
  rcases Option.eq_none_or_eq_some c.res with hr | ⟨y,hr⟩
  ·have hpn:=none_of hpr hr
   subst hpn
   have hk:keptB c a=false:=by unfold keptB;rw [hr]
   rw [show scR c d w pick a=doneR (c.setR none) d w ⟨0,false⟩ (-1) from (if_neg (fun h=>h a_1)).trans (if_neg (by rw [hk];decide))] at hS
   dsimp only [AcS,doneR] at hS
   refine Zhd [] U U<|Zht 0 U (ym U)<|Zht 1 U (yn U)<|Zht 2 U (yf 0 U)<|Zht 3 U (yd 4 U U U)<|Zht 4 U (yn U)<|Zht 5 U (yf 39 U)<|Zht 6 U (yd 0 U U (nt_core 4 U U))<|Zht 7 U (ypne U U U)<|Zht 8 U (ym U) ?_
   refine Zhu 9 U U U U<|Zhu 10 U U U U<|Zhu 11 U U U U<|Zhu 12 U U U U<|Zhu 13 U U U U<|Zhu 14 U U U U<|Zhu 15 U U U U<|Zhu 16 U U U U<|Zhu 17 U U U U<|Zhu 18 U U U U ?_
   refine Zhu 19 U U U U<|Zhu 20 U U U U<|Zhu 21 U U U U<|Zhu 22 U U U U<|Zhu 23 U U U U<|Zht 24 U (ypf U U)<|Zht 25 U (ya U)<|ZHn<|Zxq ?_
   refine Zsr<|Zm U<|Zn<|Zcf U<|Zks<|Zb 2 U ?_
   refine Za 4 [0,4,39] U U<|Ze (es 0 U U U (pt_core 4 U U) U)<|Zw0<|Zns<|Zb 2 U ?_
   refine Zv (yb l46 U) ?_
   refine Zfl [] (res_n (a:=none) U) U ?_
   refine Zfl [1,1,1,0] (cor_fold (c:=c.setR none) ok') U ?_
   refine Zk (c245 b bc bk k pick w (-1) a ⟨0,false⟩ (c.setR none)) [2,0,3] U U<|Zq<|Ze (esw 4 (m:=20) U U U U U (Enc.len ..) (Enc.allL ..))<|Zw0<|Znr<|Zre (.wh 4 (m:=20) U U (Enc.len ..) .n) hS [0,0,3,0] 2 U U U U
  ·have hk:keptB c a=decide (y=a.addr):=by unfold keptB;rw [hr]
   rw [hr]
   refine Zoc 3 res_op1 U<|fun ba ea=>?_
   subst ea
   refine Zhd [] U U<|Zht 0 U (ym U)<|Zht 1 U (yn U)<|Zht 2 U (yf 0 U)<|Zht 3 U (yd 4 U U U)<|Zht 4 U (yn U)<|Zht 5 U (yf 39 U)<|Zht 6 U (yd 1 U U (nt_core 4 U U))<|Zht 7 U (ypne U U U)<|Zht 8 U (ym U) ?_
   refine Zhg 9 U U U (ym U)<|Zhg 10 U U U (yn U)<|Zhg 11 U U U (yf 0 U)<|Zhg 12 U U U (yd 4 U U U)<|Zhg 13 U U U (yn U)<|Zhg 14 U U U (yf 39 U)<|Zhg 15 U U U (yd 1 U U (nt_core 4 U U))<|Zhg 16 U U U (yn U)<|Zhg 17 U U U (yd 0 U U U)<|Zhg 18 U U U (ym U) ?_
   refine Zhg 19 U U U (yn U)<|Zhg 20 U U U (yf 4 U)<|Zhg 21 U U U (yf 1 U)<|Zhg 22 U U U (yd 4 U U U)<|Zhg 23 U U U (yeq U U)<|Zht 24 U (ypt U U)<|Zht 25 U (ya U)<|ZHn<|Zxq ?_
   refine Zsr<|Zm U<|Zn<|Zif U (fun h31=>?_) (fun h31=>?_)
   refine Zsr<|Zm U ?_
   rotate_left
   refine Zks<|Za 6 [0,4,39] U U<|Ze (es 1 U U U (pt_core 4 U U) U)<|Zw0 ?_
   refine Zns<|Zb 2 U<|Zv (yb l46 U) ?_
   rotate_left
   ·have hk1:keptB c a=true:=hk.trans (dT h31)
    refine Zk (c251 b bc bk pick w a d ao.ad hp) [4,5] U U<|⟨?_,?_⟩
    refine fun a_2=>Zq <| Znl <| Znx ?_
    rotate_left
    refine fun a_2=>fun A_1=>fun cap_1=>Zqp <| Zp1 <| Zp1 ?_
    rotate_left
    ·rw [show scR c d w pick a=doneR (c.setR none) (writeF d a.addr a.width a.value).1 w ⟨0,true⟩ (-1) from (if_neg (fun h=>h a_1)).trans ((if_pos hk1).trans (if_pos a_2))] at hS
     dsimp only [AcS,doneR] at hS
     refine Zhd [1] U U<|Zht 0 U (ym U)<|Zht 1 U (yn U)<|Zht 2 U (yf 1 U)<|Zht 3 U (yd 0 U U U)<|Zht 4 U (ym U)<|Zht 5 U (yn U)<|Zht 6 U (yf 4 U)<|Zht 7 U (yf 1 U)<|Zht 8 U (yd 0 U U U) ?_
     refine Zht 9 U (ym U)<|Zht 10 U (yn U)<|Zht 11 U (yf 4 U)<|Zht 12 U (yf 2 U)<|Zht 13 U (yd 0 U U U)<|Zht 14 U (ym U)<|Zht 15 U (yn U)<|Zht 16 U (yf 4 U)<|Zht 17 U (yf 3 U)<|Zht 18 U (yd 0 U U U) ?_
     refine ZH1 19<|Zok (c187 bk d a.addr a.width a.value ao.ad) [0] U U U<|Zqh 1 U<|ZHn<|Zxs<|Za 5 [0,1] U U ?_
     refine Zv (yf 39 U)<|Ze (es 3 U U U (pt_core 4 U U) U)<|Zw0<|Zns<|Zb 2 U<|Zv (yb l46 U) ?_
     refine Zfl [] (res_n (a:=none) U) U ?_
     refine Zfl [4,4,4,0] (cor_fold (c:=c.setR none) ok') U ?_
     rw [dT h31]
     refine Zk (c245 b bc bk k pick w (-1) a ⟨0,true⟩ (c.setR none)) [2,0,3] U U<|Zq<|Ze (esw 5 (m:=20) U U U U U (Enc.len ..) (Enc.allL ..))<|Zw0<|Znr<|Zre (.wh 5 (m:=20) U U (Enc.len ..) .n) hS [0,0,1,0] 2 U U U U
    ·rw [show scR c d w pick a=askR c d a true pick from (if_neg (fun h=>h a_1)).trans ((if_pos hk1).trans (if_neg (by rw [a_2];decide)))] at hS
     dsimp only [AcS,askR,failR] at hS
     rw [ask_eq' ao.ad] at hS
     refine Zfx [3] (res_s (b:=ba) hr) U ?_
     refine Zfx [4,4,4,0] (cor_fold (c:=c) ok) U ?_
     refine Zpe (hS _ _) [1,1,0,0,1] 1 U U
   ·have hk0:¬ keptB c a=true:=by rw [hk,dF h31];decide
    rw [show scR c d w pick a=doneR (c.setR none) d w ⟨0,false⟩ (-1) from (if_neg (fun h=>h a_1)).trans (if_neg hk0)] at hS
    dsimp only [AcS,doneR] at hS
    refine Zfl [] (res_n (a:=none) U) U ?_
    refine Zfl [2,2,2,0] (cor_fold (c:=c.setR none) ok') U ?_
    rw [dF h31]
    refine Zk (c245 b bc bk k pick w (-1) a ⟨0,false⟩ (c.setR none)) [2,0,3] U U<|Zq<|Ze (esw 4 (m:=20) U U U U U (Enc.len ..) (Enc.allL ..))<|Zw0<|Znr<|Zre (.wh 4 (m:=20) U U (Enc.len ..) .n) hS [0,0,3,0] 2 U U U U
 ·rw [show scR c d w pick a=failR c d [] from if_pos a_1] at hS
  dsimp only [AcS,failR] at hS
  refine Zix (fun _ hs=>sep_nil (E:=msgE) hs) ?_
  refine Zpe (hS none 0) [0,0,0,1,1] 1 U U
theorem r213 (p q r:Value):Ct Tryz.prog 213 [p,q,r] .returning .returning [] []:=by
 refine ZenS Tryz.func213 U U U U U U (fun _ _=>U) (.inl ⟨U,U,U⟩) fun e X c₀ cs=>?_
 refine Zbl<|Zsr<|Zv (yii Tryz.underlying20 U)<|Zn<|Zct U<|Zrg<|Zy U<|Znl<|Zxn ?_
 refine ZeS [] 0 (fun w' hp=>⟨U,U,hp⟩) U U
def didN (id:Int):Did:=⟨0,id,com0,sto0,0⟩
theorem p213 (bi bd bm:Nat) (id:Int) (x:Did) (v:Value) (A:Option Addr) (n cap:Nat):Ct Tryz.prog 213 [pt bi,pt bd,pt bm] (pa (.iface 333 (.agg #[.slice A n cap])) false) (pa (.iface 333 (.agg #[.slice A n cap])) true) [.blk bi 3 [.int .i64 id],.blk bd 53 (didE.cells x),.blk bm 112 [v]] [.blk bi 3 [.int .i64 id],.blk bd 53 (didE.cells (didN id)),.blk bm 112 [.slice A n cap]]:=by
 refine ZenS Tryz.func213 U U U U U U (fun _ _=>U) (.inr ⟨U,U⟩) fun e X c₀ cs=>?_
 refine Zbl<|Zsr<|Zv (yin Tryz.underlying20 U)<|Zn<|Zcf U<|Zsr<|Zv (yta Tryz.underlying333 U U)<|Zb 2 U ?_
 refine Zn<|Zct U<|Zsr<|Ze (eal z333) fun b4=>Zw<|Ze (esw 0 (m:=1) U U U U U U U)<|Zw0<|Zn ?_
 refine Zhd [2,2] U U<|Zht 0 U (yd 1 U U U)<|Zht 1 U (yb l53 U)<|Zht 2 U (yf 0 U)<|Zht 3 U (yd 0 U U U)<|ZH1 4<|Zoe U (esw 0 (m:=20) U U U U (Enc.len ..) U U)<|Zwh0 2 U<|ZH1 5<|Zoe U (es 1 U U U U U)<|Zwh0 2 U<|ZHn<|Zxn ?_
 refine ZeS [3,0,0] 1 (fun w' hp=>⟨U,U,hp⟩) U U
def ClS (r:Except (List Msg) Did) (p':HP) (K:Out):Prop:=match r with
 | .ok did=>K (.returned (.agg (didE.arr did))) [.hp p']
 | .error ms=>∀ A cap,K (.panicked (stopC A ms.length cap)) [.hp (own msgE A cap ms),.hp p']
def didOf (id:Int):Except (List Msg) Did→Did | .ok d=>d | .error _=>didN id
def msOf:Except (List Msg) Did→List Msg | .ok _=>[] | .error ms=>ms
theorem c180 (f:Nat) (cs:List Value) (p p':HP) (r:Except (List Msg) Did) (id:Int) (hc:Sp Tryz.prog f cs [.hp p] (ClS r p')) (hok:callOk Tryz.prog f=true):Sp Tryz.prog 180 [.int .i64 id,.func (.func f) #[] cs.toArray] [.hp p] fun K=>∀ A cap,K (.returned (.tuple #[.agg (didE.arr (didOf id r)),.slice A (msOf r).length cap])) [.hp (own msgE A cap (msOf r)),.hp p']:=by
 refine ZenD Tryz.func180 U U U fun e X Φ hS=>?_
 refine Zsr<|Ze (ebx U) fun b2=>Zw<|Ze (eal z53) fun b4=>Zw<|Ze (eal z112) fun b5=>Zw<|Zns<|Zv (yfn U U)<|Zdv U U<|Znl ?_
 refine Zxs<|Zm U ?_
 cases r with
 | ok did=>
  refine Zkv hc [3] U U U U<|Zq<|Ze (esw 2 (m:=20) U U U U U (Enc.len ..) (Enc.allL ..))<|Zw0<|Ze (es 1 U U U U U)<|Zw0<|Znr ?_
  refine Zix (fun _ hs=>sep_nil (E:=msgE) hs) ?_
  refine ZrD (r213 _ _ _) [] U (.wh 3 (m:=20) U U (Enc.len ..) (.c 2 U U U .n)) (hS none 0) [0,0] 3 U U U
 | error ms=>
  refine Zkv hc [3] U U U U<|fun A cap=>Zqp<|Zp1 ?_
  refine ZpD (p213 b2 b4 b5 id did0 _ _ _ _) [4,3,2] U (.wh 1 (m:=20) U U (Enc.len ..) (.c 2 U U U .n)) (hS A cap) [3,3] 3 U U U
def kindL:List (Int × Value):=[(5,.func (.func 220) #[] #[]),(4,.func (.func 219) #[] #[]),(3,.func (.func 218) #[] #[]),(6,.func (.func 217) #[] #[]),(2,.func (.func 216) #[] #[]),(1,.func (.func 215) #[] #[]),(0,.func (.func 214) #[] #[])]
theorem c182:Sp Tryz.prog 182 [] [] fun K=>∀ r,K (.returned (.map (some r))) [mapC .i64 r kindL]:=by
 refine Zen Tryz.func182 U U U fun e X Φ hS=>Zsr<|Zy U<|Zns<|Ze (emk .i64) fun r1=>Zw<|Ze (ein 0 U U U U U U Tryz.underlying298 Tryz.underlying41)<|Zw0<|Ze (ein 0 U U U U U U Tryz.underlying298 Tryz.underlying41)<|Zw0<|Ze (ein 0 U U U U U U Tryz.underlying298 Tryz.underlying41)<|Zw0 ?_
 refine Ze (ein 0 U U U U U U Tryz.underlying298 Tryz.underlying41)<|Zw0<|Ze (ein 0 U U U U U U Tryz.underlying298 Tryz.underlying41)<|Zw0<|Ze (ein 0 U U U U U U Tryz.underlying298 Tryz.underlying41)<|Zw0<|Ze (ein 0 U U U U U U Tryz.underlying298 Tryz.underlying41)<|Zw0<|Zb 2 U<|Znr<|Zre (.t U .n) (hS _) [0] 0 U U U U
def actR (c:Cor) (d:CD) (w pick:Int) (a:Acc):ARes:=
 if a.kind=1 then loadR c d w pick a else if a.kind=2 then storeR c d w a else if a.kind=3 then lrR c d w pick a
 else if a.kind=4 then scR c d w pick a else if a.kind=5 then amoR c d w pick a else if a.kind=6 then fenceR c d w else doneR c d w ans0 (-1)
def goP (b1 b2 ba bc bk k:Nat) (pick w:Int) (a:Acc) (c:Cor) (d:CD):HP:=Sep (.blk b1 44 (accE.cells a) :: .blk b2 292 [pt ba]::actL ba bc bk k pick w a c d)
theorem go_op {b1 b2 ba bc bk k:Nat} {pick w:Int} {a:Acc} {c:Cor} {d:CD}:Op_ (goP b1 b2 ba bc bk k pick w a c d) fun K=>K (.blk b1 44 (accE.cells a) :: .blk b2 292 [pt ba]::actL ba bc bk k pick w a c d) := .mk fun G k h hh=>⟨_,k,hh⟩
theorem go_fold {b1 b2 ba bc bk k:Nat} {pick w:Int} {a:Acc} {c:Cor} {d:CD}:∀ h,Sep [.blk b1 44 (accE.cells a),.blk b2 292 [pt ba],.blk ba 294 (actCs bc bk pick w a),.hp (corC k bc c),.hp (cacC bk d),spC] h→goP b1 b2 ba bc bk k pick w a c d h:=fun _ hs=>hs
section
variable {b bc bk k f:Nat} {pick w:Int} {a:Acc} {c:Cor} {d:CD} {args:List Value} {L:List Ck}
theorem AcS_ok {did:Did} (h:Sp Tryz.prog f args L (AcS b bc bk k pick w a (c,d,.ok did))):Sp Tryz.prog f args L fun K=>K (.returned (.agg (didE.arr did))) (actL b bc bk k pick w a c d):=h
theorem AcS_er {ms:List Msg} (h:Sp Tryz.prog f args L (AcS b bc bk k pick w a (c,d,.error ms))):Sp Tryz.prog f args L fun K=>∀ A cap,K (.panicked (stopC A ms.length cap)) (.hp (own msgE A cap ms)::actL b bc bk k pick w a c d):=h
end
theorem c181 (ga gb ba bc bk k:Nat) (pick w:Int) (a:Acc) (c:Cor) (d:CD) (ao:a.Ok) (hp : -9223372036854775808≤pick∧pick≤9223372036854775807) (hk:k≤1000000):Sp Tryz.prog 181 [pt ga,pt gb] [.hp (goP ga gb ba bc bk k pick w a c d)] (ClS (actR c d w pick a).2.2 (goP ga gb ba bc bk k pick w a (actR c d w pick a).1 (actR c d w pick a).2.1)):=by
 have hkd:a.kind=0∨a.kind=1∨a.kind=2∨a.kind=3∨a.kind=4∨a.kind=5∨a.kind=6:=by
  have:=ao.k0
  have:=ao.k1
  omega
 obtain ⟨ak,aa,aw,av,aop,aq,ar⟩:=a
 rcases hkd with h | h | h | h | h | h | h
 ·have h:ak=0:=h
  subst h
  have hc:=c214 ba bc bk k pick w ⟨0,aa,aw,av,aop,aq,ar⟩ c
  rw [show actR c d w pick ⟨0,aa,aw,av,aop,aq,ar⟩=doneR c d w ans0 (-1) from rfl]
  refine Zen Tryz.func181 U U U fun e X Φ hS=>Zoc 0 go_op U<|?_
  dsimp only [ClS,doneR] at hS
  refine Zsr<|Ze (eal z53) fun b2=>Zw<|Znq ?_
  refine Zhd [0,2,2,3] U U<|Zht 1 U (yf 0 U)<|Zht 2 U (yd 0 U U U)<|Zht 4 U (yd 1 U U U)<|ZH1 0<|Zok (c182 ..) [] U U U<|fun r=>Zqh 5 U<|ZH1 3<|Zov U (ylk 0 U U U Tryz.underlying298 Tryz.underlying41 zv297)<|ZH1 5<|Zokv (c214 ..) [2,2,2] U U U U U<|Zqh 5 U ?_
  refine ZH1 6<|Zoe U (esw 4 (m:=20) U U U U U (Enc.len ..) (Enc.allL ..))<|Zwh0 5 U<|ZHn<|Zxr ?_
  refine Zfx [5,5,0,0,3,0] (go_fold) U<|Zre (.wh 2 (m:=20) U U (Enc.len ..) .n) hS [0] 2 U U U U
 ·have h:ak=1:=h
  subst h
  have hc:=c215 ba bc bk k pick w ⟨1,aa,aw,av,aop,aq,ar⟩ c d ao hp hk
  rw [show actR c d w pick ⟨1,aa,aw,av,aop,aq,ar⟩=loadR c d w pick ⟨1,aa,aw,av,aop,aq,ar⟩ from rfl]
  generalize loadR c d w pick ⟨1,aa,aw,av,aop,aq,ar⟩=R at hc ⊢
  obtain ⟨c',d',r⟩:=R
  cases r with
  | ok did=>
   have hc:=AcS_ok hc
   refine Zen Tryz.func181 U U U fun e X Φ hS=>Zoc 0 go_op U<|?_
   refine Zsr<|Ze (eal z53) fun b2=>Zw<|Znq ?_
   refine Zhd [0,2,2,2,2] U U<|Zht 1 U (yf 0 U)<|Zht 2 U (yd 0 U U U)<|Zht 4 U (yd 1 U U U)<|ZH1 0<|Zok (c182 ..) [] U U U<|fun r=>Zqh 6 U<|ZH1 3<|Zov U (ylk 0 U U U Tryz.underlying298 Tryz.underlying41 zv297) ?_
   refine ZH1 5<|Zokv hc [2,2,2,2] U U U U U<|Zqh 6 U<|ZH1 6<|Zoe U (esw 5 (m:=20) U U U U U (Enc.len ..) (Enc.allL ..))<|Zwh0 6 U<|ZHn<|Zxr ?_
   refine Zfx [6,6,0,0,0,0] (go_fold) U<|Zre (.wh 2 (m:=20) U U (Enc.len ..) .n) hS [0] 2 U U U U
  | error ms=>
   have hc:=AcS_er hc
   refine Zen Tryz.func181 U U U fun e X Φ hS=>Zoc 0 go_op U<|?_
   refine Zsr<|Ze (eal z53) fun b2=>Zw<|Znq ?_
   refine Zhd [0,2,2,2,2] U U<|Zht 1 U (yf 0 U)<|Zht 2 U (yd 0 U U U)<|Zht 4 U (yd 1 U U U)<|ZH1 0<|Zok (c182 ..) [] U U U<|fun r=>Zqh 6 U<|ZH1 3<|Zov U (ylk 0 U U U Tryz.underlying298 Tryz.underlying41 zv297) ?_
   refine ZH1 5<|Zokv hc [2,2,2,2] U U U U U<|fun A=>fun cap=>Zqhp<|Zp1 ?_
   refine Zfx [7,7,1,1,1,1] (go_fold) U ?_
   refine Zpe (hS _ _) [1,0] 2 U U
 ·have h:ak=2:=h
  subst h
  have hc:=c216 ba bc bk k pick w ⟨2,aa,aw,av,aop,aq,ar⟩ c d ao
  rw [show actR c d w pick ⟨2,aa,aw,av,aop,aq,ar⟩=storeR c d w ⟨2,aa,aw,av,aop,aq,ar⟩ from rfl]
  generalize storeR c d w ⟨2,aa,aw,av,aop,aq,ar⟩=R at hc ⊢
  obtain ⟨c',d',r⟩:=R
  cases r with
  | ok did=>
   have hc:=AcS_ok hc
   refine Zen Tryz.func181 U U U fun e X Φ hS=>Zoc 0 go_op U<|?_
   refine Zsr<|Ze (eal z53) fun b2=>Zw<|Znq ?_
   refine Zhd [0,2,2,2,2] U U<|Zht 1 U (yf 0 U)<|Zht 2 U (yd 0 U U U)<|Zht 4 U (yd 1 U U U)<|ZH1 0<|Zok (c182 ..) [] U U U<|fun r=>Zqh 6 U<|ZH1 3<|Zov U (ylk 0 U U U Tryz.underlying298 Tryz.underlying41 zv297) ?_
   refine ZH1 5<|Zokv hc [2,2,2,2] U U U U U<|Zqh 6 U<|ZH1 6<|Zoe U (esw 5 (m:=20) U U U U U (Enc.len ..) (Enc.allL ..))<|Zwh0 6 U<|ZHn<|Zxr ?_
   refine Zfx [6,6,0,0,0,0] (go_fold) U<|Zre (.wh 2 (m:=20) U U (Enc.len ..) .n) hS [0] 2 U U U U
  | error ms=>
   have hc:=AcS_er hc
   refine Zen Tryz.func181 U U U fun e X Φ hS=>Zoc 0 go_op U<|?_
   refine Zsr<|Ze (eal z53) fun b2=>Zw<|Znq ?_
   refine Zhd [0,2,2,2,2] U U<|Zht 1 U (yf 0 U)<|Zht 2 U (yd 0 U U U)<|Zht 4 U (yd 1 U U U)<|ZH1 0<|Zok (c182 ..) [] U U U<|fun r=>Zqh 6 U<|ZH1 3<|Zov U (ylk 0 U U U Tryz.underlying298 Tryz.underlying41 zv297) ?_
   refine ZH1 5<|Zokv hc [2,2,2,2] U U U U U<|fun A=>fun cap=>Zqhp<|Zp1 ?_
   refine Zfx [7,7,1,1,1,1] (go_fold) U ?_
   refine Zpe (hS _ _) [1,0] 2 U U
 ·have h:ak=3:=h
  subst h
  have hc:=c218 ba bc bk k pick w ⟨3,aa,aw,av,aop,aq,ar⟩ c d ao hp
  rw [show actR c d w pick ⟨3,aa,aw,av,aop,aq,ar⟩=lrR c d w pick ⟨3,aa,aw,av,aop,aq,ar⟩ from rfl]
  generalize lrR c d w pick ⟨3,aa,aw,av,aop,aq,ar⟩=R at hc ⊢
  obtain ⟨c',d',r⟩:=R
  cases r with
  | ok did=>
   have hc:=AcS_ok hc
   refine Zen Tryz.func181 U U U fun e X Φ hS=>Zoc 0 go_op U<|?_
   refine Zsr<|Ze (eal z53) fun b2=>Zw<|Znq ?_
   refine Zhd [0,2,2,2,2] U U<|Zht 1 U (yf 0 U)<|Zht 2 U (yd 0 U U U)<|Zht 4 U (yd 1 U U U)<|ZH1 0<|Zok (c182 ..) [] U U U<|fun r=>Zqh 6 U<|ZH1 3<|Zov U (ylk 0 U U U Tryz.underlying298 Tryz.underlying41 zv297) ?_
   refine ZH1 5<|Zokv hc [2,2,2,2] U U U U U<|Zqh 6 U<|ZH1 6<|Zoe U (esw 5 (m:=20) U U U U U (Enc.len ..) (Enc.allL ..))<|Zwh0 6 U<|ZHn<|Zxr ?_
   refine Zfx [6,6,0,0,0,0] (go_fold) U<|Zre (.wh 2 (m:=20) U U (Enc.len ..) .n) hS [0] 2 U U U U
  | error ms=>
   have hc:=AcS_er hc
   refine Zen Tryz.func181 U U U fun e X Φ hS=>Zoc 0 go_op U<|?_
   refine Zsr<|Ze (eal z53) fun b2=>Zw<|Znq ?_
   refine Zhd [0,2,2,2,2] U U<|Zht 1 U (yf 0 U)<|Zht 2 U (yd 0 U U U)<|Zht 4 U (yd 1 U U U)<|ZH1 0<|Zok (c182 ..) [] U U U<|fun r=>Zqh 6 U<|ZH1 3<|Zov U (ylk 0 U U U Tryz.underlying298 Tryz.underlying41 zv297) ?_
   refine ZH1 5<|Zokv hc [2,2,2,2] U U U U U<|fun A=>fun cap=>Zqhp<|Zp1 ?_
   refine Zfx [7,7,1,1,1,1] (go_fold) U ?_
   refine Zpe (hS _ _) [1,0] 2 U U
 ·have h:ak=4:=h
  subst h
  have hc:=c219 ba bc bk k pick w ⟨4,aa,aw,av,aop,aq,ar⟩ c d ao hp
  rw [show actR c d w pick ⟨4,aa,aw,av,aop,aq,ar⟩=scR c d w pick ⟨4,aa,aw,av,aop,aq,ar⟩ from rfl]
  generalize scR c d w pick ⟨4,aa,aw,av,aop,aq,ar⟩=R at hc ⊢
  obtain ⟨c',d',r⟩:=R
  cases r with
  | ok did=>
   have hc:=AcS_ok hc
   refine Zen Tryz.func181 U U U fun e X Φ hS=>Zoc 0 go_op U<|?_
   refine Zsr<|Ze (eal z53) fun b2=>Zw<|Znq ?_
   refine Zhd [0,2,2,2,2] U U<|Zht 1 U (yf 0 U)<|Zht 2 U (yd 0 U U U)<|Zht 4 U (yd 1 U U U)<|ZH1 0<|Zok (c182 ..) [] U U U<|fun r=>Zqh 6 U<|ZH1 3<|Zov U (ylk 0 U U U Tryz.underlying298 Tryz.underlying41 zv297) ?_
   refine ZH1 5<|Zokv hc [2,2,2,2] U U U U U<|Zqh 6 U<|ZH1 6<|Zoe U (esw 5 (m:=20) U U U U U (Enc.len ..) (Enc.allL ..))<|Zwh0 6 U<|ZHn<|Zxr ?_
   refine Zfx [6,6,0,0,0,0] (go_fold) U<|Zre (.wh 2 (m:=20) U U (Enc.len ..) .n) hS [0] 2 U U U U
  | error ms=>
   have hc:=AcS_er hc
   refine Zen Tryz.func181 U U U fun e X Φ hS=>Zoc 0 go_op U<|?_
   refine Zsr<|Ze (eal z53) fun b2=>Zw<|Znq ?_
   refine Zhd [0,2,2,2,2] U U<|Zht 1 U (yf 0 U)<|Zht 2 U (yd 0 U U U)<|Zht 4 U (yd 1 U U U)<|ZH1 0<|Zok (c182 ..) [] U U U<|fun r=>Zqh 6 U<|ZH1 3<|Zov U (ylk 0 U U U Tryz.underlying298 Tryz.underlying41 zv297) ?_
   refine ZH1 5<|Zokv hc [2,2,2,2] U U U U U<|fun A=>fun cap=>Zqhp<|Zp1 ?_
   refine Zfx [7,7,1,1,1,1] (go_fold) U ?_
   refine Zpe (hS _ _) [1,0] 2 U U
 ·have h:ak=5:=h
  subst h
  have hc:=c220 ba bc bk k pick w ⟨5,aa,aw,av,aop,aq,ar⟩ c d ao hp
  rw [show actR c d w pick ⟨5,aa,aw,av,aop,aq,ar⟩=amoR c d w pick ⟨5,aa,aw,av,aop,aq,ar⟩ from rfl]
  generalize amoR c d w pick ⟨5,aa,aw,av,aop,aq,ar⟩=R at hc ⊢
  obtain ⟨c',d',r⟩:=R
  cases r with
  | ok did=>
   have hc:=AcS_ok hc
   refine Zen Tryz.func181 U U U fun e X Φ hS=>Zoc 0 go_op U<|?_
   refine Zsr<|Ze (eal z53) fun b2=>Zw<|Znq ?_
   refine Zhd [0,2,2,2,2] U U<|Zht 1 U (yf 0 U)<|Zht 2 U (yd 0 U U U)<|Zht 4 U (yd 1 U U U)<|ZH1 0<|Zok (c182 ..) [] U U U<|fun r=>Zqh 6 U<|ZH1 3<|Zov U (ylk 0 U U U Tryz.underlying298 Tryz.underlying41 zv297) ?_
   refine ZH1 5<|Zokv hc [2,2,2,2] U U U U U<|Zqh 6 U<|ZH1 6<|Zoe U (esw 5 (m:=20) U U U U U (Enc.len ..) (Enc.allL ..))<|Zwh0 6 U<|ZHn<|Zxr ?_
   refine Zfx [6,6,0,0,0,0] (go_fold) U<|Zre (.wh 2 (m:=20) U U (Enc.len ..) .n) hS [0] 2 U U U U
  | error ms=>
   have hc:=AcS_er hc
   refine Zen Tryz.func181 U U U fun e X Φ hS=>Zoc 0 go_op U<|?_
   refine Zsr<|Ze (eal z53) fun b2=>Zw<|Znq ?_
   refine Zhd [0,2,2,2,2] U U<|Zht 1 U (yf 0 U)<|Zht 2 U (yd 0 U U U)<|Zht 4 U (yd 1 U U U)<|ZH1 0<|Zok (c182 ..) [] U U U<|fun r=>Zqh 6 U<|ZH1 3<|Zov U (ylk 0 U U U Tryz.underlying298 Tryz.underlying41 zv297) ?_
   refine ZH1 5<|Zokv hc [2,2,2,2] U U U U U<|fun A=>fun cap=>Zqhp<|Zp1 ?_
   refine Zfx [7,7,1,1,1,1] (go_fold) U ?_
   refine Zpe (hS _ _) [1,0] 2 U U
 ·have h:ak=6:=h
  subst h
  have hc:=c217 ba bc bk k pick w ⟨6,aa,aw,av,aop,aq,ar⟩ c d
  rw [show actR c d w pick ⟨6,aa,aw,av,aop,aq,ar⟩=fenceR c d w from rfl]
  generalize fenceR c d w=R at hc ⊢
  obtain ⟨c',d',r⟩:=R
  cases r with
  | ok did=>
   have hc:=AcS_ok hc
   refine Zen Tryz.func181 U U U fun e X Φ hS=>Zoc 0 go_op U<|?_
   refine Zsr<|Ze (eal z53) fun b2=>Zw<|Znq ?_
   refine Zhd [0,2,2,2,2] U U<|Zht 1 U (yf 0 U)<|Zht 2 U (yd 0 U U U)<|Zht 4 U (yd 1 U U U)<|ZH1 0<|Zok (c182 ..) [] U U U<|fun r=>Zqh 6 U<|ZH1 3<|Zov U (ylk 0 U U U Tryz.underlying298 Tryz.underlying41 zv297) ?_
   refine ZH1 5<|Zokv hc [2,2,2,2] U U U U U<|Zqh 6 U<|ZH1 6<|Zoe U (esw 5 (m:=20) U U U U U (Enc.len ..) (Enc.allL ..))<|Zwh0 6 U<|ZHn<|Zxr ?_
   refine Zfx [6,6,0,0,0,0] (go_fold) U<|Zre (.wh 2 (m:=20) U U (Enc.len ..) .n) hS [0] 2 U U U U
  | error ms=>
   have hc:=AcS_er hc
   refine Zen Tryz.func181 U U U fun e X Φ hS=>Zoc 0 go_op U<|?_
   refine Zsr<|Ze (eal z53) fun b2=>Zw<|Znq ?_
   refine Zhd [0,2,2,2,2] U U<|Zht 1 U (yf 0 U)<|Zht 2 U (yd 0 U U U)<|Zht 4 U (yd 1 U U U)<|ZH1 0<|Zok (c182 ..) [] U U U<|fun r=>Zqh 6 U<|ZH1 3<|Zov U (ylk 0 U U U Tryz.underlying298 Tryz.underlying41 zv297) ?_
   refine ZH1 5<|Zokv hc [2,2,2,2] U U U U U<|fun A=>fun cap=>Zqhp<|Zp1 ?_
   refine Zfx [7,7,1,1,1,1] (go_fold) U ?_
   refine Zpe (hS _ _) [1,0] 2 U U
def drP (b0 b1 b2 ba bc bk k:Nat) (pick:Int) (c:Cor) (d:CD):HP:=Sep [.blk b0 74 [pt bc],.blk b1 80 [pt bk],.blk b2 292 [pt ba],.blk ba 294 (actCs bc bk pick 0 acc0),.hp (corC k bc c),.hp (cacC bk d)]
theorem dr_op {b0 b1 b2 ba bc bk k:Nat} {pick:Int} {c:Cor} {d:CD}:Op_ (drP b0 b1 b2 ba bc bk k pick c d) fun K=>K [.blk b0 74 [pt bc],.blk b1 80 [pt bk],.blk b2 292 [pt ba],.blk ba 294 (actCs bc bk pick 0 acc0),.hp (corC k bc c),.hp (cacC bk d)] := .mk fun G k h hh=>⟨_,k,hh⟩
theorem dr_fold {b0 b1 b2 ba bc bk k:Nat} {pick:Int} {c:Cor} {d:CD}:∀ h,Sep [.blk b0 74 [pt bc],.blk b1 80 [pt bk],.blk b2 292 [pt ba],.blk ba 294 (actCs bc bk pick 0 acc0),.hp (corC k bc c),.hp (cacC bk d)] h→drP b0 b1 b2 ba bc bk k pick c d h:=fun _ hs=>hs
def drainR (c:Cor) (d:CD) (pick:Int):ARes:=
 if hdB c.B=false then failR c d []
 else if (writeF d (hdS c.B).addr (hdS c.B).width (hdS c.B).value).2≠0 then
  failR c (askA (writeF d (hdS c.B).addr (hdS c.B).width (hdS c.B).value).1 ⟨0,(hdS c.B).addr,0,0,0,false,false⟩ true pick).1 (askA (writeF d (hdS c.B).addr (hdS c.B).width (hdS c.B).value).1 ⟨0,(hdS c.B).addr,0,0,0,false,false⟩ true pick).2.1
 else ((c.setB c.B.tail).setF (c.first+1),(writeF d (hdS c.B).addr (hdS c.B).width (hdS c.B).value).1,.ok ⟨2,c.h.id,com0,hdS c.B,c.first⟩)
theorem hd_u {l:List Sto} (h:∀ s∈l,s.In):U32 (hdS l).addr:=by
 cases l with
 | nil=>exact ⟨by decide,by decide⟩
 | cons s r=>exact (h s (.head _)).ad
theorem c184 (b0 b1 b2 ba bc bk k:Nat) (pick:Int) (c:Cor) (d:CD) (hp : -9223372036854775808≤pick∧pick≤9223372036854775807) (hk:k≤1000000):Sp Tryz.prog 184 [pt b0,pt b1,pt b2] [.hp (drP b0 b1 b2 ba bc bk k pick c d)] (ClS (drainR c d pick).2.2 (drP b0 b1 b2 ba bc bk (k+1) pick (drainR c d pick).1 (drainR c d pick).2.1)):=by
 refine Zen Tryz.func184 U U U fun e X Φ hS=>Zoc 0 dr_op U<|Zoc 4 cor_op U<|fun ok A cap bb pr hpr=>Zoc 2 buf_le U<|fun h4 hal=>?_
 have hu:=hd_u hal
 have hf0:=ok.f0
 have hf1:=ok.f1
 refine Zsr<|Ze (eal z53) fun b3=>Zw<|Zns<|Za 3 [5,37] U U<|Zv (yd 2 U U (nt_core 2 U U))<|Zk (c185 ..) [1] U U ?_
 refine Zq<|Zb 3 U<|Ze (eal z51) fun b4=>Zw<|Ze (esw 0 (m:=3) U U U U U (Enc.len ..) (Enc.allL ..))<|Zw0<|Zy U<|Zns ?_
 refine Zm U<|Zk (c186 ..) [] U U<|⟨?_,?_⟩
 refine fun a=>Zq <| Znl <| Znx <| Zsq <| Zsr <| Zv (yd 7 rfl rfl rfl) <| Zv (yf 0 rfl) <| Zv (yd 0 rfl rfl rfl) <| Zv (yf 1 rfl) ?_
 refine Za 3 [0,2,0] U U ?_
 rotate_left
 refine fun a=>Zqp <| Zp1 ?_
 rotate_left
 ·refine Zk (c187 bk d (hdS c.B).addr (hdS c.B).width (hdS c.B).value hu) [10] U U<|Zq<|Zv (yne U U)<|Zn<|Zif U (fun h24=>?_) (fun h24=>?_)
  refine Zrg<|Za 3 [9,0,1] U U<|Zv (yquo U U (by decide) U) ?_
  rotate_left
  refine Zks<|Za 3 [7,37] U U<|Zv (yd 4 U U (nt_core 2 U U))<|Zk (c189 ..) [2] U U<|Zq<|Znl ?_
  refine Zxs<|Za 3 [7,38] U U<|Zv (yd 4 U U (nt_core 3 U U))<|Zv (yadd U U (i64w U (by omega)))<|Za 2 [38] U U<|Ze (es 4 U U U (pt_core 3 U U) U)<|Zw0 ?_
  refine Znq<|Zhe 13 U<|Zht 0 U (yd 7 U U U)<|Zht 1 U (yn U)<|Zht 2 U (yf 0 U)<|Zht 3 U (yf 0 U)<|Zht 4 U (yf 0 U)<|Zht 5 U (yd 4 U U U) ?_
  refine Zht 6 U (ydw 2 (m:=3) U U (Enc.len ..))<|Zht 7 U (yd 7 U U U)<|Zht 8 U (yn U)<|Zht 9 U (yf 38 U)<|Zht 10 U (yd 4 U U (nt_core 3 U U))<|Zht 11 U (ysub U U (i64w U (by omega)))<|Zht 12 U (yb l53 U)<|ZHn<|Ztl U<|Zte (esw 3 (m:=20) U U U U U U U)<|Ztw ?_
  refine Ztn<|Zxr ?_
  rotate_left
  ·rw [(u32_q hu).1]
   refine Zk (c188 ba bc bk pick 0 ((hdS c.B).addr/16) true acc0 (writeF d (hdS c.B).addr (hdS c.B).width (hdS c.B).value).1 (u32_q hu).2 hp) [10,0] U U<|fun A_1=>fun cap_1=>Zqp<|Zp1 ?_
   have hq:askA (writeF d (hdS c.B).addr (hdS c.B).width (hdS c.B).value).1 ⟨0,(hdS c.B).addr,0,0,0,false,false⟩ true pick=askF (writeF d (hdS c.B).addr (hdS c.B).width (hdS c.B).value).1 ((hdS c.B).addr/16) (u32_q hu).2 true pick:=dif_pos hu
   rw [show drainR c d pick=failR c (askA (writeF d (hdS c.B).addr (hdS c.B).width (hdS c.B).value).1 ⟨0,(hdS c.B).addr,0,0,0,false,false⟩ true pick).1 (askA (writeF d (hdS c.B).addr (hdS c.B).width (hdS c.B).value).1 ⟨0,(hdS c.B).addr,0,0,0,false,false⟩ true pick).2.1 from (if_neg (by rw [a];decide)).trans (if_pos h24),hq] at hS
   dsimp only [ClS,failR] at hS
   refine Zfx [6,6,4,5] (cor_fold (k:=k+1) (c:=c) (ok.mono (Nat.le_succ k))) U ?_
   refine Zfx [6,6,6,2,0,1] (dr_fold (c:=c)) U ?_
   refine Zpe (hS _ _) [1,0] 2 U U
  ·have ok':((c.setB c.B.tail).setF (c.first+1)).Ok (k+1):=⟨ok.h,ok.cu,ok.cl,ok.s0,ok.s1,by show 0≤c.first+1;omega,by show c.first+1≤((k+1:Nat):Int);omega,ok.res⟩
   rw [show c.first+1-1=c.first by omega]
   rw [show drainR c d pick=((c.setB c.B.tail).setF (c.first+1),(writeF d (hdS c.B).addr (hdS c.B).width (hdS c.B).value).1,.ok ⟨2,c.h.id,com0,hdS c.B,c.first⟩) from (if_neg (by rw [a];decide)).trans (if_neg h24)] at hS
   dsimp only [ClS] at hS
   refine Zfx [4,4,0,3] (cor_fold (k:=k+1) (c:=(c.setB c.B.tail).setF (c.first+1)) ok') U ?_
   refine Zfx [4,4,4,4,0,0] (dr_fold (c:=(c.setB c.B.tail).setF (c.first+1))) U<|Zre (.wh 2 (m:=20) U U U .n) hS [0] 2 U U U U
 ·rw [show drainR c d pick=failR c d [] from if_pos a] at hS
  dsimp only [ClS,failR] at hS
  refine Zfx [3,3,1,2] (cor_fold (k:=k+1) (c:=c) (ok.mono (Nat.le_succ k))) U ?_
  refine Zfx [3,3,3,3,0,2] (dr_fold (c:=c)) U ?_
  refine Zix (fun _ hs=>sep_nil (E:=msgE) hs) ?_
  refine Zpe (hS none 0) [0,0] 2 U U
theorem c140 (bc bk k:Nat) (pick:Int) (c:Cor) (d:CD) (hp : -9223372036854775808≤pick∧pick≤9223372036854775807) (hk:k≤1000000):Sp Tryz.prog 140 [pt bc,pt bk,.int .i64 pick] [.hp (corC k bc c),.hp (cacC bk d)] fun K=>∀ A cap,K (.returned (.tuple #[.agg (didE.arr (didOf c.h.id (drainR c d pick).2.2)),.slice A (msOf (drainR c d pick).2.2).length cap,.int .i64 0])) [.hp (own msgE A cap (msOf (drainR c d pick).2.2)),.hp (corC (k+1) bc (drainR c d pick).1),.hp (cacC bk (drainR c d pick).2.1)]:=by
 refine Zen Tryz.func140 U U U fun e X Φ hS=>?_
 refine Zsr<|Ze (ebx U) fun b3=>Zw<|Ze (ebx U) fun b4=>Zw<|Ze (eal z53) fun b6=>Zw<|Zb 2 U<|Znqs ?_
 refine Zv (yd 2 U U U)<|Zk (c53 ..) [3] U U<|Zq<|Za 2 [2] U U<|Zg U U<|Zk (c42 ..) [4] U U<|fun b'=>Zq ?_
 refine Zg U U<|Zv (ypeq U U U)<|Zv (ypf U U)<|Zn<|Zcf U<|Zks<|Zv (yd 5 U U U) ?_
 refine Za 2 [4] U U<|Zv (yb l294 U)<|Ze (ebx U) fun b24=>Zw<|Ze (eal z292) fun b9=>Zw<|Ze (es 0 U U U U U)<|Zw0<|Zns<|Zv (yd 7 U U U) ?_
 refine Za 4 [0,0,0] U U ?_
 refine Zol 4 cor_op U<|fun ok A cap bb pr hpr=>Zv (yd 0 U U U)<|Zv (yfn U U) ?_
 refine Zfl [0,0,0,0] (cor_fold (c:=c) ok) U ?_
 refine Zfl [7,6,1,1,0,1] (dr_fold (b0:=b3) (b1:=b4) (b2:=b9) (ba:=b24) (bc:=bc) (bk:=bk) (k:=k) (pick:=pick) (c:=c) (d:=d)) U ?_
 refine Zk (c180 184 [pt b3,pt b4,pt b9] (drP b3 b4 b9 b24 bc bk k pick c d) (drP b3 b4 b9 b24 bc bk (k+1) pick (drainR c d pick).1 (drainR c d pick).2.1) (drainR c d pick).2.2 c.h.id (c184 b3 b4 b9 b24 bc bk k pick c d hp hk) (by kernel_rfl)) [0] U U<|fun A_1=>fun cap_1=>Zq<|Zb 3 U<|Ze (eal z53) fun b10=>Zw<|Ze (esw 0 (m:=20) U U U U U (Enc.len ..) (Enc.allL ..))<|Zw0<|Zy U ?_
 refine Zns<|Zv (ydw 0 (m:=20) U U (Enc.len ..))<|Zm U<|Ze (esw 4 (m:=20) U U U U U (Enc.len ..) (Enc.allL ..))<|Zw0<|Zb 2 U<|Zn ?_
 refine Zrt ?_
 refine Zox 2 dr_op U<|Zre (.wh 9 (m:=20) U U (Enc.len ..) (.t U (.t U .n))) (hS _ _) [7,4,4] 7 U U U U
def goF (c:Cor) (d:CD) (pick:Int):Cor × CD × Did × List Msg:=
 if c.h.cause≠0 then (c,d,didN c.h.id,[])
 else if (fetF c.code c.h.pc).2=false then (c.setH (c.h.setCause 4),d,⟨1,c.h.id,⟨c.h.pc,0,acc0,ans0,0,0,4⟩,sto0,-1⟩,[])
 else ((actR c d (fetF c.code c.h.pc).1 pick (actF c.h (fetF c.code c.h.pc).1 c.size).1).1,(actR c d (fetF c.code c.h.pc).1 pick (actF c.h (fetF c.code c.h.pc).1 c.size).1).2.1,
  didOf c.h.id (actR c d (fetF c.code c.h.pc).1 pick (actF c.h (fetF c.code c.h.pc).1 c.size).1).2.2,msOf (actR c d (fetF c.code c.h.pc).1 pick (actF c.h (fetF c.code c.h.pc).1 c.size).1).2.2)
theorem c138 (bc bk k:Nat) (pick:Int) (c:Cor) (d:CD) (hp : -9223372036854775808≤pick∧pick≤9223372036854775807) (hk:k≤1000000):Sp Tryz.prog 138 [pt bc,pt bk,.int .i64 pick] [.hp (corC k bc c),.hp (cacC bk d),spC] fun K=>∀ A cap,K (.returned (.tuple #[.agg (didE.arr (goF c d pick).2.2.1),.slice A (goF c d pick).2.2.2.length cap,.int .i64 0])) [.hp (own msgE A cap (goF c d pick).2.2.2),.hp (corC k bc (goF c d pick).1),.hp (cacC bk (goF c d pick).2.1),spC]:=by
 refine Zen Tryz.func138 U U U fun e X Φ hS=>?_
 refine Zsr<|Ze (eal z53) fun b6=>Zw<|Zb 2 U<|Znqs<|Zm U<|Zk (c53 ..) [1] U U ?_
 refine Zq<|Zb 2 U<|Zg U U<|Zk (c42 ..) [2] U U<|fun b'=>Zq<|Zg U U<|Zv (ypeq U U U) ?_
 refine Zv (ypf U U)<|Zn<|Zcf U<|Zkn<|Zsq<|Zsr<|Zb 2 U ?_
 refine Za 3 [0,0,34] U U ?_
 refine Zol 2 cor_op U<|fun ok A cap bb pr hpr=>Zv (yd 0 U U (nt_cca _ _))<|Zv (yne U U)<|Zn<|Zif U (fun h31=>?_) (fun h31=>?_)
 refine Zsr<|Za 6 [0,0,0,0] U U<|Zv (yb l53 U)<|Ze (esw 6 (m:=20) U U U U U U U)<|Zw0<|Zy U ?_
 refine Zy U<|Znr<|Zr1 ?_
 rotate_left
 refine Zkn<|Zsq ?_
 rotate_left
 ·rw [show goF c d pick=(c,d,didN c.h.id,[]) from if_pos h31] at hS
  refine Zfx [0,0,0,0] (cor_fold (c:=c) ok) U ?_
  refine Zix (fun _ hs=>sep_nil (E:=msgE) hs)<|Zre (.wh 4 (m:=20) U U U (.t U (.t U .n))) (hS _ _) [0,0,1,2] 2 U U U U
 ·have hpc:=ok.h.pc
  have hcl:=ok.cl
  refine Zhd [1] U U<|Zht 0 U (ym U)<|Zht 1 U (yn U)<|Zht 2 U (yf 0 U)<|Zht 3 U (yf 35 U)<|Zht 4 U (yd 0 U U (nt_core 0 U U))<|Zht 5 U (ym U)<|Zht 6 U (yn U)<|Zht 7 U (yf 0 U)<|Zht 8 U (yf 0 U) ?_
  refine Zht 9 U (yf 1 U)<|Zht 10 U (yd 0 U U U) ?_
  refine ZH1 11<|Zok (c127 _ A cap c.code c.h.pc own.rd hpc (by omega)) [0] U U U<|Zqh 1 U<|Zht 12 U (ym U)<|Zht 13 U (yx U U)<|Zht 14 U (yx U U)<|Zht 15 U (ya U)<|Zht 16 U (ya U)<|ZHn<|Zxq ?_
  refine Zsr<|Zb 2 U<|Zn<|Zib U (fun h55=>?_) (fun h55=>?_)
  refine Zsr<|Za 5 [0,0,34] U U<|Ze (es 1 U U U (pt_cca _ _ _) U)<|Zw0<|Znq ?_
  refine Zhe 14 U<|Zht 0 U (ym U)<|Zht 1 U (yn U)<|Zht 2 U (yf 0 U)<|Zht 3 U (yf 0 U)<|Zht 4 U (yf 0 U)<|Zht 5 U (yd 1 U U U)<|Zht 6 U (ym U)<|Zht 7 U (yn U)<|Zht 8 U (yf 0 U) ?_
  refine Zht 9 U (yf 0 U)<|Zht 10 U (yf 1 U)<|Zht 11 U (yd 1 U U U)<|Zht 12 U (yb l49 U)<|Zht 13 U (yb l53 U)<|ZHn<|Ztl U<|Zte (esw 6 (m:=20) U U U U U U U)<|Ztw<|Ztv (ya U)<|Ztv (ya U) ?_
  refine Ztn<|Zxr<|Zr1 ?_
  rotate_left
  refine Zkn<|Zsq ?_
  rotate_left
  ·have hf:(fetF c.code c.h.pc).2=false:=by simpa using h55
   have ok':(c.setH (c.h.setCause 4)).Ok k:=⟨ok.h.setCause (by decide) (by decide),ok.cu,ok.cl,ok.s0,ok.s1,ok.f0,ok.f1,ok.res⟩
   rw [show goF c d pick=(c.setH (c.h.setCause 4),d,⟨1,c.h.id,⟨c.h.pc,0,acc0,ans0,0,0,4⟩,sto0,-1⟩,[]) from (if_neg h31).trans (if_pos hf)] at hS
   dsimp only at hS
   refine Zfx [1,0,0,0] (cor_fold (c:=c.setH (c.h.setCause 4)) ok') U ?_
   refine Zix (fun _ hs=>sep_nil (E:=msgE) hs)<|Zre (.wh 4 (m:=20) U U U (.t U (.t U .n))) (hS _ _) [0,0,1,2] 2 U U U U
  ·have hf:¬ (fetF c.code c.h.pc).2=false:=by intro h;rw [h] at h55;cases h55
   have okh:=ok.h
   rw [show goF c d pick=_ from (if_neg h31).trans (if_neg hf)] at hS
   generalize (fetF c.code c.h.pc).1=w at hS ⊢
   have ao:=act_ok c.h w c.size okh
   refine Zhd [7] U U<|Zht 0 U (ym U)<|Zht 1 U (yn U)<|Zht 2 U (yf 0 U)<|Zht 3 U (yf 0 U)<|Zht 4 U (yda 1 (m:=35) U U (core_hart _ _) (Enc.len ..))<|Zht 5 U (ym U)<|Zht 6 U (ym U)<|Zht 7 U (yn U)<|Zht 8 U (yf 0 U) ?_
   refine Zht 9 U (yf 36 U)<|Zht 10 U (yd 1 U U (nt_core 1 U U))<|ZH2 11 16 (Zok (c129 ..) [0] U U U ?_) (Zoe U (eal z44) fun b11=>Zwh 2 U ?_)
   refine Zqh 1 U<|Zht 12 U (ym U)<|Zht 13 U (yx U U)<|Zht 14 U (yx U U)<|Zht 15 U (yx U U)<|ZH1 16<|Zoe U (eal z44) fun b11=>Zwh 2 U<|ZH1 17<|Zoe U (esw 0 (m:=7) U U U U U (Enc.len ..) (Enc.allL ..))<|Zwh0 2 U<|Zht 18 U (ya U)<|Zht 19 U (ya U)<|ZHn ?_
   refine Zxs<|Zb 4 U<|Zv (ydw 0 (m:=7) U U (Enc.len ..))<|Zv (yb l294 U)<|Ze (ebx U) fun b97=>Zw<|Ze (eal z292) fun b14=>Zw ?_
   refine Ze (es 0 U U U U U)<|Zw0<|Zns<|Za 6 [0,0,0,5] U U ?_
   refine Zv (yfn U U) ?_
   rotate_left
   refine ZH1 11<|Zok (c129 ..) [1] U U U<|Zqh 2 U<|Zht 12 U (ym U)<|Zht 13 U (yx U U)<|Zht 14 U (yx U U)<|Zht 15 U (yx U U)<|ZH1 17<|Zoe U (esw 1 (m:=7) U U U U U (Enc.len ..) (Enc.allL ..))<|Zwh0 2 U<|Zht 18 U (ya U)<|Zht 19 U (ya U)<|ZHn ?_
   refine Zxs<|Zb 4 U<|Zv (ydw 1 (m:=7) U U (Enc.len ..))<|Zv (yb l294 U)<|Ze (ebx U) fun b97=>Zw<|Ze (eal z292) fun b14=>Zw ?_
   refine Ze (es 0 U U U U U)<|Zw0<|Zns<|Za 6 [0,0,0,5] U U ?_
   refine Zv (yfn U U) ?_
   rotate_left
   ·dsimp only at hS
    refine Zfl [5,4,4,4] (cor_fold (c:=c) ok) U ?_
    refine Zfl [3,1,1,0,2,0] (go_fold (b1:=b11) (b2:=b14) (ba:=b97) (bc:=bc) (bk:=bk) (k:=k) (pick:=pick) (w:=w) (a:=(actF c.h w c.size).1) (c:=c) (d:=d)) U ?_
    refine Zk (c180 181 [pt b11,pt b14] (goP b11 b14 b97 bc bk k pick w (actF c.h w c.size).1 c d) (goP b11 b14 b97 bc bk k pick w (actF c.h w c.size).1 (actR c d w pick (actF c.h w c.size).1).1 (actR c d w pick (actF c.h w c.size).1).2.1) (actR c d w pick (actF c.h w c.size).1).2.2 c.h.id (c181 b11 b14 b97 bc bk k pick w (actF c.h w c.size).1 c d ao hp hk) (by kernel_rfl)) [0] U U<|fun A_1=>fun cap_1=>Zq<|Zb 3 U<|Ze (eal z53) fun b15=>Zw<|Ze (esw 0 (m:=20) U U U U U (Enc.len ..) (Enc.allL ..))<|Zw0<|Zy U ?_
    refine Zns<|Zv (ydw 0 (m:=20) U U (Enc.len ..))<|Zm U<|Ze (esw 4 (m:=20) U U U U U (Enc.len ..) (Enc.allL ..))<|Zw0<|Zb 2 U<|Zn ?_
    refine Zrt ?_
    refine Zox 2 go_op U<|Zre (.wh 9 (m:=20) U U (Enc.len ..) (.t U (.t U .n))) (hS _ _) [7,3,3,3] 6 U U U U
   ·dsimp only at hS
    refine Zfl [5,4,4,4] (cor_fold (c:=c) ok) U ?_
    refine Zfl [4,1,1,0,2,0] (go_fold (b1:=b11) (b2:=b14) (ba:=b97) (bc:=bc) (bk:=bk) (k:=k) (pick:=pick) (w:=w) (a:=(actF c.h w c.size).1) (c:=c) (d:=d)) U ?_
    refine Zk (c180 181 [pt b11,pt b14] (goP b11 b14 b97 bc bk k pick w (actF c.h w c.size).1 c d) (goP b11 b14 b97 bc bk k pick w (actF c.h w c.size).1 (actR c d w pick (actF c.h w c.size).1).1 (actR c d w pick (actF c.h w c.size).1).2.1) (actR c d w pick (actF c.h w c.size).1).2.2 c.h.id (c181 b11 b14 b97 bc bk k pick w (actF c.h w c.size).1 c d ao hp hk) (by kernel_rfl)) [0] U U<|fun A_1=>fun cap_1=>Zq<|Zb 3 U<|Ze (eal z53) fun b15=>Zw<|Ze (esw 0 (m:=20) U U U U U (Enc.len ..) (Enc.allL ..))<|Zw0<|Zy U ?_
    refine Zns<|Zv (ydw 0 (m:=20) U U (Enc.len ..))<|Zm U<|Ze (esw 4 (m:=20) U U U U U (Enc.len ..) (Enc.allL ..))<|Zw0<|Zb 2 U<|Zn ?_
    refine Zrt ?_
    refine Zox 2 go_op U<|Zre (.wh 9 (m:=20) U U (Enc.len ..) (.t U (.t U .n))) (hS _ _) [7,3,3,3] 6 U U U U
def manyC {β:Type} (F:β→HP):List β→HP
 | []=>fun _=>True
 | x::l=>Sep [.hp (F x),.hp (manyC F l)]
theorem sep_un {L:List Ck} {p:HP} {h:Hl} (hs:Sep [.hp p] h) (f:∀ h,p h→Sep L h):Sep L h:=by
 have:=(hs.hd (q := .hp (Sep L)) f).flat
 rwa [List.append_nil] at this
theorem sep_fo {L:List Ck} {p:HP} {h:Hl} (hs:Sep L h) (f:∀ h,Sep L h→p h):Sep [.hp p] h:=by
 have h2:Sep (L++[]) h:=by rwa [List.append_nil]
 exact h2.unflat.hd (q := .hp p) f
section
variable {β:Type} {F G:β→HP}
theorem many_out:∀ (a:List β) {x:β} {c:List β} {h:Hl},manyC F (a++x::c) h→Sep [.hp (F x),.hp (manyC F (a++c))] h
 | [],_,_,_,hs=>hs
 | y::a,x,c,h,hs=>by
  have h1:Sep [.hp (F y),.hp (F x),.hp (manyC F (a++c))] h:=Sep.mapTl hs fun _ hh=>sep_un hh fun _ hq=>many_out a hq
  exact h1.swap.mapTl fun _ hh=>sep_fo hh fun _ hq=>hq
theorem many_in:∀ (a:List β) {x:β} {c:List β} {h:Hl},Sep [.hp (F x),.hp (manyC F (a++c))] h→manyC F (a++x::c) h
 | [],_,_,_,hs=>hs
 | y::a,x,c,h,hs=>by
  have h1:Sep [.hp (F x),.hp (F y),.hp (manyC F (a++c))] h:=Sep.mapTl hs fun _ hh=>sep_un hh fun _ hq=>hq
  exact h1.swap.mapTl fun _ hh=>sep_fo hh fun _ hq=>many_in a hq
theorem many_imp:∀ {l:List β} {h:Hl},manyC F l h→(∀ x∈l,∀ h,F x h→G x h)→manyC G l h
 | [],_,_,_=>trivial
 | x::l,h,hs,f=>by
  have h1:Sep [.hp (G x),.hp (manyC F l)] h:=Sep.hd hs (q := .hp (G x)) (f x (.head _))
  exact h1.mapTl fun _ hh=>hh.hd (q := .hp (manyC G l)) fun _ hq=>many_imp hq fun y hy=>f y (.tail _ hy)
theorem many_up:∀ {l:List β} {h:Hl},Sep [.hp (manyC F l)] h→manyC F l h
 | [],_,_=>trivial
 | x::l,h,hs=>sep_un hs fun _ hq=>hq
theorem many_drop {a:List β} {x:β} {c:List β} {h:Hl} (hs:manyC F (a++x::c) h):Sep [.hp (manyC F (a++c))] h:=(many_out a hs).tl
end
section
variable {β:Type} {F:β→HP}
theorem many_at {l:List β} {i:Nat} {x:β} {h:Hl} (e:l[i]? = some x) (hs:manyC F l h):Sep [.hp (F x),.hp (manyC F (l.eraseIdx i))] h:=by
 obtain ⟨hi,rfl⟩:=List.getElem?_eq_some_iff.1 e
 rw [List.eraseIdx_eq_take_drop_succ]
 refine many_out (l.take i) ?_
 rwa [List.getElem_cons_drop hi,List.take_append_drop]
theorem many_set {l:List β} {i:Nat} {y:β} {h:Hl} (hi:i<l.length) (hs:Sep [.hp (F y),.hp (manyC F (l.eraseIdx i))] h):manyC F (l.set i y) h:=by
 rw [List.set_eq_take_append_cons_drop,if_pos hi]
 refine many_in (l.take i) ?_
 rwa [List.eraseIdx_eq_take_drop_succ] at hs
end
def mp (es:List (Nat × Nat)):List (Int × Value):=es.map fun x=>((x.1:Int),pt x.2)
abbrev keys (es:List (Nat × Nat)):List Nat:=es.map (·.1)
theorem lk_no {n:Nat}:∀ {es:List (Nat × Nat)},n ∉ keys es→lk (n:Int) (mp es)=none
 | [],_=>rfl
 | (m,b)::es,h=>by
  have h1:n≠m:=fun e=>h (by rw [e];exact .head _)
  have h2:n ∉ keys es:=fun e=>h (.tail _ e)
  show (match lk (n:Int) (mp es) with | some u=>some u | none=>bif (n:Int) == (m:Int) then _ else none)=none
  rw [lk_no h2]
  have:((n:Int) == (m:Int))=false:=by simpa using (by omega:(n:Int)≠m)
  simp only [this,cond_false]
theorem lk_mid {n b:Nat} {c:List (Nat × Nat)} (hc:n ∉ keys c):∀ {a:List (Nat × Nat)},n ∉ keys a→lk (n:Int) (mp (a++(n,b)::c))=some (pt b)
 | [],_=>by
  show (match lk (n:Int) (mp c) with | some u=>some u | none=>bif (n:Int) == (n:Int) then _ else none)=_
  rw [lk_no hc]
  simp
 | (m,b')::a,h=>by
  have h2:n ∉ keys a:=fun e=>h (.tail _ e)
  show (match lk (n:Int) (mp (a++(n,b)::c)) with | some u=>some u | none=>bif (n:Int) == (m:Int) then _ else none)=_
  rw [lk_mid hc h2]
theorem upd_mid {n b b':Nat} {c:List (Nat × Nat)} (hc:n ∉ keys c):∀ {a:List (Nat × Nat)},n ∉ keys a→upd' (n:Int) (pt b') (mp (a++(n,b)::c))=mp (a++(n,b')::c)
 | [],_=>by
  show (match lk (n:Int) (mp c) with | some _=>_ | none=>bif (n:Int) == (n:Int) then _ else _)=_
  rw [lk_no hc]
  simp
  rfl
 | (m,b'')::a,h=>by
  have h2:n ∉ keys a:=fun e=>h (.tail _ e)
  show (match lk (n:Int) (mp (a++(n,b)::c)) with | some _=>_::upd' (n:Int) _ (mp (a++(n,b)::c)) | none=>_)=_
  rw [lk_mid hc h2,upd_mid hc h2]
  rfl
theorem ups_mid {n b b':Nat} {a c:List (Nat × Nat)} (ha:n ∉ keys a) (hc:n ∉ keys c):ups (n:Int) (pt b') (mp (a++(n,b)::c))=mp (a++(n,b')::c):=by
 unfold ups
 rw [lk_mid hc ha]
 exact upd_mid hc ha
theorem ups_no {n b':Nat} {es:List (Nat × Nat)} (h:n ∉ keys es):ups (n:Int) (pt b') (mp es)=mp ((n,b')::es):=by
 unfold ups
 rw [lk_no h]
 rfl
theorem keys_split {n:Nat}:∀ {es:List (Nat × Nat)},(keys es).Nodup→n∈keys es→∃ a b c,es=a++(n,b)::c∧n ∉ keys a∧n ∉ keys c
 | [],_,h=>by cases h
 | (m,b)::es,hn,h=>by
  have hn':=List.nodup_cons.1 hn
  by_cases e:n=m
  ·subst e
   exact ⟨[],b,es,rfl,List.not_mem_nil,hn'.1⟩
  ·rcases List.mem_cons.1 h with h | h
   ·exact absurd h e
   ·obtain ⟨a,b',c,rfl,h1,h2⟩:=keys_split hn'.2 h
    refine ⟨(m,b)::a,b',c,rfl,fun h=>?_,h2⟩
    rcases List.mem_cons.1 h with h | h
    ·exact e h
    ·exact h1 h
theorem nodup_le {α:Type} [DecidableEq α]:∀ (l m:List α),l.Nodup→(∀ x∈l,x∈m)→l.length≤m.length
 | [],_,_,_=>Nat.zero_le _
 | x::l,m,hn,hs=>by
  rw [List.nodup_cons] at hn
  have hx:x∈m:=hs x (by simp)
  have h2:=nodup_le l (m.erase x) hn.2 fun y hy=>(List.mem_erase_of_ne (fun e:y=x=>hn.1 (e ▸ hy))).2 (hs y (by simp [hy]))
  rw [List.length_erase_of_mem hx] at h2
  have:=List.length_pos_of_mem hx
  simp only [List.length_cons]
  omega
abbrev iterC (it r:Nat) (l:List (Int × Value)) (pre:List MapEntry):Ck := .obj it (.mapIter (some r) l.length (pre.map (·.born)).toArray l.length)
section
variable {k:IntKind}
theorem es_mem:∀ {l:List (Int × Value)} {e:MapEntry},e∈esOf k l→∃ x∈l,e.key = .int k x.1∧e.val=x.2∧e.born<l.length
 | [],_,h=>by cases h
 | (n,v)::l,e,h=>by
  rcases List.mem_append.1 h with h | h
  ·obtain ⟨x,hx,h1,h2,h3⟩:=es_mem h
   exact ⟨x,.tail _ hx,h1,h2,Nat.lt_succ_of_lt h3⟩
  ·rw [List.mem_singleton] at h
   subst h
   exact ⟨(n,v),.head _,rfl,rfl,Nat.lt_succ_self _⟩
theorem mem_es:∀ {l:List (Int × Value)} {x:Int × Value},x∈l→∃ e∈esOf k l,e.key = .int k x.1
 | (n,v)::l,x,h=>by
  rcases List.mem_cons.1 h with rfl | h
  ·exact ⟨_,List.mem_append.2 (.inr (.head _)),rfl⟩
  ·obtain ⟨e,he,h1⟩:=mem_es h
   exact ⟨e,List.mem_append.2 (.inl he),h1⟩
theorem es_born:∀ {l:List (Int × Value)},((esOf k l).map (·.born)).Nodup
 | []=>List.nodup_nil
 | (n,v)::l=>by
  show ((esOf k l++[_]).map _).Nodup
  rw [List.map_append,List.nodup_append]
  refine ⟨es_born,by simp,fun a ha b hb e=>?_⟩
  obtain ⟨x,hx,rfl⟩:=List.mem_map.1 ha
  obtain ⟨_,_,_,_,h3⟩:=es_mem hx
  simp at hb
  omega
theorem es_inj {l:List (Int × Value)} {e e':MapEntry} (h:e∈esOf k l) (h':e'∈esOf k l) (hb:e.born=e'.born):e=e':=by
 have hp:=List.pairwise_map.1 (es_born (k:=k) (l:=l))
 obtain ⟨i,hi,rfl⟩:=List.getElem_of_mem h
 obtain ⟨j,hj,rfl⟩:=List.getElem_of_mem h'
 have hp:=List.pairwise_iff_getElem.1 hp
 rcases Nat.lt_trichotomy i j with x | x | x
 ·exact absurd hb (hp i j hi hj x)
 ·subst x;rfl
 ·exact absurd hb.symm (hp j i hj hi x)
theorem es_key:∀ {l:List (Int × Value)} {e e':MapEntry},(l.map (·.1)).Nodup→e∈esOf k l→e'∈esOf k l→e.key=e'.key→e=e'
 | [],_,_,_,h,_,_=>by cases h
 | (n,v)::l,e,e',hn,h,h',hk=>by
  have hn':=List.nodup_cons.1 hn
  have no:∀ {x:MapEntry},x∈esOf k l→x.key ≠ .int k n:=fun hx hh=>by
   obtain ⟨y,hy,h1,_⟩:=es_mem hx
   rw [h1] at hh
   cases hh
   exact hn'.1 (show y.1∈l.map (·.1) from List.mem_map_of_mem hy)
  rcases List.mem_append.1 h with h | h <;> rcases List.mem_append.1 h' with h' | h'
  ·exact es_key hn'.2 h h' hk
  ·rw [List.mem_singleton] at h';subst h';exact absurd hk (no h)
  ·rw [List.mem_singleton] at h;subst h;exact absurd hk.symm (no h')
  ·rw [List.mem_singleton] at h h';rw [h,h']
end
section
variable {P:Program} {N:Nat × List Deferred} {T:Tb} {e:World} {L L':List Ck} {x:Operand} {t ty:TypeId} {pos:String} {af:Array Edge} {g:Option (Nat × Bool)} {dd:Option Nat} {k:IntKind} {r it:Nat} {l:List (Int × Value)} {pre:List MapEntry}
theorem emr (i:Nat) {K0 E:Nat} (h:evT T x=some (.map (some r))) (hL:nth L i=some (mapC k r l)) (ht:P.underlying t=some (.map K0 E)):Ef P N T e L ⟨dd,.range t x,ty,pos,af,g⟩ fun K=>∀ it,K (some (pt it)) (iterC it r l []::L):=fun a w fr hp G kk => .inl (by
 have hM:MapBlk w r (esOf k l).toArray l.length:=hp.ob hL
 refine ⟨pt w.heap.size,w.alloc (.mapIter (some r) l.length #[] l.length),?_,kk _ _ (hp.newO ((Only.refl _ w).alloc _) (Go.heap_alloc_new w _) (Nat.le_refl _))⟩
 have:=run_range_map w t K0 E r _ _ ht hM
 simp [execOp,fr.evT h,this])
theorem enx (i j:Nat) (h:evT T x=some (pt it)) (hL:nth L i=some (iterC it r l pre)) (hM:nth L j=some (mapC k r l)) (hpre:∀ s∈pre,s∈esOf k l):Ef P N T e L ⟨dd,.next x false,ty,pos,af,g⟩ fun K=>((∀ s∈esOf k l,s∈pre)→K (some (.tuple #[.bool false])) L)∧∀ s∈esOf k l,s ∉ pre→∀ L',put L i (iterC it r l (pre++[s]))=some L'→K (some (.tuple #[.bool true,s.key,s.val])) L':=fun a w fr hp G kk => .inl (by
 have hI:w.heap[it]? = some (.mapIter (some r) l.length (pre.map (·.born)).toArray l.length):=hp.ob hL
 have hMp:w.heap[r]? = some (.map (esOf k l).toArray l.length):=hp.ob hM
 rcases run_next_at (P:=P) w ty it r l.length l.length _ _ _ hI hMp (fun s hs=>by
  obtain ⟨_,_,_,_,h3⟩:=es_mem (show s∈esOf k l by simpa using hs)
  exact h3) (Nat.le_refl _) with ⟨h0,hrun⟩ | ⟨s,hs,w1,hw1,hrun⟩
 ·refine ⟨.tuple #[.bool false],w,by simp [execOp,fr.evT h,hrun],kk.1 (fun s hs=>?_) _ hp⟩
  have h1:=(Array.filter_eq_empty_iff.1 (Array.eq_empty_of_size_eq_zero h0)) s (by simpa using hs)
  simp at h1
  obtain ⟨s',hs',hb⟩:=h1
  rw [← es_inj (hpre s' hs') hs hb]
  exact hs'
 ·have hel:=Array.mem_filter.1 (show s∈leftOf (esOf k l).toArray (pre.map (·.born)).toArray by simpa using hs)
  have hs1:s∈esOf k l:=by simpa using hel.1
  have hs2:s ∉ pre:=fun hm=>by
   have:=hel.2
   simp at this
   exact this s hm rfl
  have hp1:Hp e L w1:=by rcases hw1 with rfl | rfl;exact hp;exact hp.drew
  have hI1:w1.heap[it]? = some (.mapIter (some r) l.length (pre.map (·.born)).toArray l.length):=hp1.ob hL
  have hlt:it<w1.heap.size:=(Array.getElem?_eq_some_iff.1 hI1).1
  obtain ⟨L',hL'⟩:=put_of (iterC it r l (pre++[s])) hL
  refine ⟨_,_,by simp [execOp,fr.evT h,hrun];rfl,kk.2 s hs1 hs2 L' hL' _ (hp1.back hL hL' fun M hq=>hq.setO ?_ ?_)⟩
  ·refine ⟨rfl,rfl,rfl,by simp [ChangeMaps.setBlock],fun j hj hs=>?_⟩
   simp [ChangeMaps.setBlock,show it≠j from fun h=>hs h.symm]
  ·simp [ChangeMaps.setBlock,hlt])
theorem yen (i j:Nat) {s:MapEntry} (h:evT T x=some (pt it)) (hL:nth L i=some (iterC it r l (pre++[s]))) (hM:nth L j=some (mapC k r l)) (hs:s∈esOf k l):Yl P N T e L ⟨dd,.entry x,ty,pos,af,g⟩ (.tuple #[s.key,s.val]):=fun a w fr hp=>by
 have hI:w.heap[it]? = some (.mapIter (some r) l.length ((pre++[s]).map (·.born)).toArray l.length):=hp.ob hL
 have hMp:w.heap[r]? = some (.map (esOf k l).toArray l.length):=hp.ob hM
 have hI2:w.heap[it]? = some (.mapIter (some r) l.length ((pre.map (·.born)).toArray.push s.born) l.length):=by rw [hI];simp
 have:=run_entry_at (P:=P) w it r l.length _ _ _ s hI2 hMp (by simpa using hs) (by simpa using es_born)
 simp [execOp,fr.evT h,this]
end
structure Sh where
 a:Bool
 b:Bool
 c:Bool
 d:Bool
 deriving DecidableEq
def Sh.get (s:Sh) (i:Int):Bool:=if i=0 then s.a else if i=1 then s.b else if i=2 then s.c else if i=3 then s.d else false
def Sh.set (s:Sh) (i:Int) (x:Bool):Sh:=if i=0 then ⟨x,s.b,s.c,s.d⟩ else if i=1 then ⟨s.a,x,s.c,s.d⟩ else if i=2 then ⟨s.a,s.b,x,s.d⟩ else if i=3 then ⟨s.a,s.b,s.c,x⟩ else s
def sh0:Sh:=⟨false,false,false,false⟩
structure Ent where
 o:Int
 sh:Sh
 busy:Bool
 asks:Int
 kind:Int
 waits:Int
 told:Bool
 q:List Msg
 deriving DecidableEq
def ent0:Ent:=⟨-1,sh0,false,0,0,0,false,[]⟩
def Ent.cs (d:Ent) (v:Value):List Value:=[.int .i64 d.o,.bool d.sh.a,.bool d.sh.b,.bool d.sh.c,.bool d.sh.d,.bool d.busy,.int .i64 d.asks,.int .i64 d.kind,.int .i64 d.waits,.bool d.told,v]
def Ent.setO (d:Ent) (o:Int):Ent:=⟨o,d.sh,d.busy,d.asks,d.kind,d.waits,d.told,d.q⟩
def Ent.setS (d:Ent) (s:Sh):Ent:=⟨d.o,s,d.busy,d.asks,d.kind,d.waits,d.told,d.q⟩
def Ent.setT (d:Ent) (t:Bool):Ent:=⟨d.o,d.sh,d.busy,d.asks,d.kind,d.waits,t,d.q⟩
def Ent.setW (d:Ent) (w:Int):Ent:=⟨d.o,d.sh,d.busy,d.asks,d.kind,w,d.told,d.q⟩
def Ent.setQ (d:Ent) (q:List Msg):Ent:=⟨d.o,d.sh,d.busy,d.asks,d.kind,d.waits,d.told,q⟩
def othK (sh:Sh) (r:Int):Nat→List Int
 | 0=>[]
 | k+1=>if (sh.get k && decide ((k:Int)≠r))=true then othK sh r k++[(k:Int)] else othK sh r k
def othersF (sh:Sh) (r:Int):List Int:=othK sh r 4
def leaveF (d:Ent) (r:Int):Ent:=d.setO (if d.o=r then -1 else d.o)
def ownF (d:Ent) (r:Int):Ent:=⟨r,sh0,d.busy,d.asks,d.kind,d.waits,d.told,d.q⟩
def busyF (d:Ent) (m:Msg) (waits:Int) (told:Bool):Ent:=⟨d.o,d.sh,true,m.src,m.kind,waits,told,d.q⟩
theorem oth_len (sh:Sh) (r:Int):∀ k,(othK sh r k).length≤k
 | 0=>Nat.le_refl 0
 | k+1=>by
  unfold othK
  have:=oth_len sh r k
  split
  ·simp;omega
  ·omega
def lineB (bs:List Int) (n:Int):B16:=if h:(lineF bs n.toNat).length=16∧∀ a∈lineF bs n.toNat,0≤a∧a<256 then ⟨lineF bs n.toNat,h⟩ else b16z
def setLn (bs:List Int) (n:Int) (b:B16):List Int:=setF bs n.toNat b.1
structure Byt (bs:List Int) (n:Int):Prop where
 r:∀ a∈bs,0≤a∧a<256
 l:bs.length≤1048576
 n0:0≤n
 n1:n.toNat<bs.length/16
theorem Byt.line {bs:List Int} {n:Int} (h:Byt bs n):(lineB bs n).1=lineF bs n.toNat:=by
 unfold lineB
 rw [dif_pos ⟨line_len h.n1,fun a ha=>h.r a (List.mem_of_mem_take (List.mem_of_mem_drop ha))⟩]
theorem Byt.set {bs:List Int} {n:Int} (h:Byt bs n) (k:Int) (hk:k=n) (b:B16):Byt (setLn bs k b) n:=by
 subst hk
 have h1:(setLn bs k b).length=bs.length:=set_len h.n1 b.2.1
 refine ⟨fun a ha=>?_,by rw [h1];exact h.l,h.n0,by rw [h1];exact h.n1⟩
 unfold setLn setF at ha
 rcases List.mem_append.1 ha with ha | ha
 ·rcases List.mem_append.1 ha with ha | ha
  ·exact h.r a (List.mem_of_mem_take ha)
  ·exact b.2.2 a ha
 ·exact h.r a (List.mem_of_mem_drop ha)
def workC (bw bh bi r:Nat) (n:Int) (d:Ent) (out:List Msg) (bs:List Int):HP:=fun h=>Byt bs n∧∃ be A cap Aq cq,Sep [.blk bw 313 [.slice A out.length cap,pt be,pt bh,.int .u32 n],.blk be 165 (d.cs (.slice Aq d.q.length cq)),.hp (own msgE A cap out),.hp (own msgE Aq cq d.q),.blk bh 158 [pt bi,.map (some r)],.hp (imgC bi bs)] h
theorem work_op {bw bh bi r:Nat} {n:Int} {d:Ent} {out:List Msg} {bs:List Int}:Op_ (workC bw bh bi r n d out bs) fun K=>Byt bs n→∀ be A cap Aq cq,K [.blk bw 313 [.slice A out.length cap,pt be,pt bh,.int .u32 n],.blk be 165 (d.cs (.slice Aq d.q.length cq)),.hp (own msgE A cap out),.hp (own msgE Aq cq d.q),.blk bh 158 [pt bi,.map (some r)],.hp (imgC bi bs)] := .mk fun G k h hh=>by
 obtain ⟨ok,be,A,cap,Aq,cq,hs⟩:=hh
 exact ⟨_,k ok be A cap Aq cq,hs⟩
theorem work_fold {bw bh bi r be cap cq:Nat} {n:Int} {d:Ent} {out:List Msg} {bs:List Int} {A Aq:Option Addr} (ok:Byt bs n):∀ h,Sep [.blk bw 313 [.slice A out.length cap,pt be,pt bh,.int .u32 n],.blk be 165 (d.cs (.slice Aq d.q.length cq)),.hp (own msgE A cap out),.hp (own msgE Aq cq d.q),.blk bh 158 [pt bi,.map (some r)],.hp (imgC bi bs)] h→workC bw bh bi r n d out bs h:=fun _ hs=>⟨ok,be,A,cap,Aq,cq,hs⟩
theorem c227f (fine:Bool) (why:Int) (h:fine=false):Sp Tryz.prog 227 [.bool fine,.int .i64 why] [] fun K=>K (.panicked (panV (.iface 308 (.agg #[.int .i64 why])))) []:=by
 subst h
 refine Zen Tryz.func227 U U U fun e X Φ hS=>Zsr<|Zb 2 U<|Zn<|Zct U<|Zrg<|Zm U<|Zv (yb l308 U) ?_
 refine Zv (ymi Tryz.underlying308 U U)<|Zpn U ?_
 refine Zpe hS [] 0 U U
theorem c299 (bw bh bi r:Nat) (n k:Int) (d:Ent) (out:List Msg) (bs:List Int):Sp Tryz.prog 299 [pt bw,.int .i64 k] [.hp (workC bw bh bi r n d out bs)] fun K=>K (.returned (.tuple #[])) [.hp (workC bw bh bi r n (leaveF d k) out bs)]:=by
 refine Zen Tryz.func299 U U U fun e X Φ hS=>Zoc 0 work_op U<|fun ok be A cap Aq cq=>?_
 refine Zsr<|Za 9 [1,0,0,1] U U ?_
 refine Zn<|Zif U (fun h12=>?_) (fun h12=>?_)
 refine Zrg<|Za 6 [1,0,0] U U<|Ze (es 1 U U U U U)<|Zw0<|Znl<|Zee ?_
 rotate_left
 refine Zsk<|Zee ?_
 rotate_left
 ·rw [show leaveF d k=d.setO (-1) by unfold leaveF;rw [if_pos h12]] at hS
  refine Zfx [0,0,0,0,0,0] (work_fold (d:=d.setO (-1)) ok) U<|Zre .n hS [0] 0 U U U U
 ·rw [show leaveF d k=d by unfold leaveF;rw [if_neg h12];rfl] at hS
  refine Zfx [0,0,0,0,0,0] (work_fold (d:=d) ok) U<|Zre .n hS [0] 0 U U U U
theorem c229 (bw bh bi r:Nat) (n k:Int) (d:Ent) (out:List Msg) (bs:List Int):Sp Tryz.prog 229 [pt bw,.int .i64 k] [.hp (workC bw bh bi r n d out bs)] fun K=>K (.returned (.tuple #[])) [.hp (workC bw bh bi r n (ownF d k) out bs)]:=by
 refine Zen Tryz.func229 U U U fun e X Φ hS=>Zoc 0 work_op U<|fun ok be A cap Aq cq=>?_
 refine Zhd [1] U U<|Zht 0 U (ym U)<|Zht 1 U (yn U)<|Zht 2 U (yf 1 U)<|Zht 3 U (yd 0 U U U)<|Zht 4 U (ym U)<|Zht 5 U (yn U)<|Zht 6 U (yf 1 U)<|Zht 7 U (yd 0 U U U)<|Zht 8 U (ym U) ?_
 refine Zht 9 U (yb l163 U)<|Zht 10 U (yn U)<|Zht 11 U (yf 0 U)<|ZH1 12<|Zoe U (es 0 U U U U U)<|Zwh0 1 U<|Zht 13 U (yn U)<|Zht 14 U (yf 1 U)<|ZH1 15<|Zoe U (esa 0 (m:=4) U U U U U (Nat.le_of_ble_eq_true U) U)<|Zwh0 1 U<|ZHn<|Zee ?_
 refine Zfx [1,0,0,0,0,0] (work_fold (d:=ownF d k) ok) U<|Zre .n hS [0] 0 U U U U
theorem c300 (bw bh bi r:Nat) (n:Int) (m:Msg) (wt:Int) (td:Bool) (d:Ent) (out:List Msg) (bs:List Int):Sp Tryz.prog 300 [pt bw,.agg (msgE.arr m),.int .i64 wt,.bool td] [.hp (workC bw bh bi r n d out bs)] fun K=>K (.returned (.tuple #[])) [.hp (workC bw bh bi r n (busyF d m wt td) out bs)]:=by
 refine Zen Tryz.func300 U U U fun e X Φ hS=>Zoc 0 work_op U<|fun ok be A cap Aq cq=>?_
 refine Zsr<|Ze (ebxE U) fun b5=>Zw<|Zn ?_
 refine Zhd [2] U U<|Zht 0 U (ym U)<|Zht 1 U (yn U)<|Zht 2 U (yf 1 U)<|Zht 3 U (yd 1 U U U)<|Zht 4 U (ym U)<|Zht 5 U (yn U)<|Zht 6 U (yf 1 U)<|Zht 7 U (yd 1 U U U)<|Zht 8 U (ym U) ?_
 refine Zht 9 U (yn U)<|Zht 10 U (yf 1 U)<|Zht 11 U (yd 1 U U U)<|Zht 12 U (ym U)<|Zht 13 U (yn U)<|Zht 14 U (yf 1 U)<|Zht 15 U (yd 1 U U U)<|Zht 16 U (ym U)<|Zht 17 U (yn U)<|Zht 18 U (yf 1 U) ?_
 refine Zht 19 U (yd 1 U U U)<|Zht 20 U (yf 1 U)<|Zht 21 U (yd 0 U U U)<|Zht 22 U (yf 0 U)<|Zht 23 U (yd 0 U U U)<|Zht 24 U (ym U)<|Zht 25 U (ym U)<|Zht 26 U (yn U)<|Zht 27 U (yf 5 U)<|ZH1 28<|Zoe U (es 0 U U U U U)<|Zwh0 1 U ?_
 refine Zht 29 U (yn U)<|Zht 30 U (yf 6 U)<|ZH1 31<|Zoe U (es 0 U U U U U)<|Zwh0 1 U<|Zht 32 U (yn U)<|Zht 33 U (yf 7 U)<|ZH1 34<|Zoe U (es 0 U U U U U)<|Zwh0 1 U<|Zht 35 U (yn U)<|Zht 36 U (yf 8 U)<|ZH1 37<|Zoe U (es 0 U U U U U)<|Zwh0 1 U<|Zht 38 U (yn U) ?_
 refine Zht 39 U (yf 9 U)<|ZH1 40<|Zoe U (es 0 U U U U U)<|Zwh0 1 U<|ZHn<|Zee ?_
 refine Zfx [2,0,1,1,1,1] (work_fold (d:=busyF d m wt td) ok) U<|Zre .n hS [0] 1 U U U U
abbrev i64E:Enc Tryz.prog Int:=intE 3 .i64
theorem elI64:ElemI i64E 399 8:=⟨Tryz.underlying399,by
 obtain ⟨i0,hi,hz0,hz1,hz2⟩:=info_parts (show (Tryz.prog.info? 3).map (fun i=>(i.zero,i.size,i.bytes))=some (some (.int .i64 0),1,8) by kernel_rfl)
 exact ⟨i0,_,hi,hz0,hz1,hz2,rfl⟩⟩
section
variable {N:Nat × List Deferred} {T:Tb} {e:World} {L:List Ck} {x:Operand} {ty:TypeId} {pos:String} {af:Array Edge} {g:Option (Nat × Bool)} {dd:Option Nat}
theorem ebi {k:Int} (h:evT T x=some (.int .i64 k)):Ef Tryz.prog N T e L ⟨dd,.buildSlice 399 1 #[(0,x)],ty,pos,af,g⟩ fun K=>∀ A,K (some (.slice A 1 1)) (.hp (own i64E A 1 [k])::L):=fun a w fr hp G kk => .inl (by
 obtain ⟨i,z,hi,hz,hsz,hby,hzc⟩:=elI64.info
 have hs1:i.size=1:=hsz
 refine ⟨.slice (some ⟨w.heap.size,0,none⟩) 1 1,w.alloc (.cells #[.int .i64 k] 3),?_,kk _ _ (hp.ownNew ((Only.refl _ w).alloc _) ⟨by simp,by decide,.inr ⟨_,0,_,rfl,Go.heap_alloc_new w _,by simp [i64E,intE],by simp [i64E,intE]⟩⟩ inA_new)⟩
 have hfill:Instr.fill (fun q=>some (q*i.size,i.size)) ((Array.range (1*i.size)).map (z.cells[· % z.cells.size]!)) [(0,.int .i64 k)]=some #[.int .i64 k]:=by
  rw [hs1]
  generalize hzz:(Array.range (1*1)).map (z.cells[· % z.cells.size]!)=zz
  have hz1:zz.size=1:=by rw [← hzz];simp
  rcases zz with ⟨_ | ⟨v0,_ | ⟨v1,l⟩⟩⟩
  ·exact absurd hz1 (by simp)
  ·rfl
  ·exact absurd hz1 (by simp)
 have:=run_buildSlice (P:=Tryz.prog) w 399 3 1 #[(0,.int .i64 k)] #[.int .i64 k] i z elI64.ty hi hz (by rw [hs1];omega) (by rw [hs1];omega) hfill
 simp [execOp,fr.evT h,this])
end
theorem put_it {α:Type}:∀ {L L':List α} {i:Nat} {c:α},nth L i=some c→put L i c=some L'→L=L'
 | [],_,_,_,h,_=>by cases h
 | x::l,L',0,c,h,h1=>by cases h;cases h1;rfl
 | x::l,L',i+1,c,h,h1=>by
  cases hp:put l i c with
  | none=>simp [put,hp] at h1
  | some l'=>
   simp [put,hp] at h1
   subst h1
   rw [put_it (i:=i) h hp]
section
variable {P:Program} {r:Option Nat} {n:Nat} {c:Code} {Q:Exit→Act→World→Prop} {N:Nat × List Deferred} {T:Tb} {e:World} {L L':List Ck}
theorem Zbs (i:Nat) {b t:Nat} {cs:List Value} (cs':List Value) (hL:nth L i=some (.blk b t cs)) (hc:cs=cs') (hL':put L i (.blk b t cs')=some L') (k:ZC P r n c Q N T e L'):ZC P r n c Q N T e L:=by
 subst hc
 rw [put_it hL hL']
 exact k
end
theorem sh_nth (s:Sh) {i:Nat} (h:i<4):nth [.bool s.a,.bool s.b,.bool s.c,.bool s.d] i=some (Value.bool (s.get i)):=by
 match i,h with
 | 0,_=>rfl
 | 1,_=>rfl
 | 2,_=>rfl
 | 3,_=>rfl
theorem put_sh (d:Ent) (v:Value) (x:Bool) {i:Nat} (h:i<4):put (d.cs v) (1+i) (.bool x)=some ((d.setS (d.sh.set i x)).cs v):=by
 match i,h with
 | 0,_=>rfl
 | 1,_=>rfl
 | 2,_=>rfl
 | 3,_=>rfl
theorem nth_sh (d:Ent) (v:Value) {i:Nat} (h:i<4):nth (d.cs v) (1+i)=some (.bool (d.sh.get i)):=by
 match i,h with
 | 0,_=>rfl
 | 1,_=>rfl
 | 2,_=>rfl
 | 3,_=>rfl
theorem c258' (b:Nat) (n:Int) (bs:List Int) (ok:Byt bs n):Sp Tryz.prog 258 [pt b,.int .u32 n] [.hp (imgC b bs)] fun K=>K (.returned (.tuple #[.agg (bsE.cells (lineB bs n)).toArray,.int .i64 0])) [.hp (imgC b bs)]:=⟨fun e X w Φ hp hS=>by
 have h0:=ok.n0
 have h1:=ok.l
 have h2:=ok.n1
 have hn:n=(n.toNat:Int):=by omega
 have hb:bsE.cells (lineB bs n)=(lineF bs n.toNat).map (Value.int .u8):=by rw [← ok.line];rfl
 rw [hb] at hS
 rw [hn]
 exact (c258 b n.toNat bs h1 (by omega)).run e X w Φ hp ⟨fun _=>hS,fun h=>absurd h2 (by omega)⟩⟩
theorem c56' (b:Nat) (n:Int) (bs:List Int) (x:B16) (ok:Byt bs n):Sp Tryz.prog 56 [pt b,.int .u32 n,.agg (bsE.cells x).toArray] [.hp (imgC b bs)] fun K=>K (.returned (.int .i64 0)) [.hp (imgC b (setLn bs n x))]:=⟨fun e X w Φ hp hS=>by
 have h0:=ok.n0
 have h1:=ok.l
 have h2:=ok.n1
 have hn:n=(n.toNat:Int):=by omega
 have hp':=(c56 b n.toNat bs x.1 x.2.1 h1 (by omega)).run e X w Φ hp ⟨fun _=>hS,fun h=>absurd h2 (by omega)⟩
 rw [← hn] at hp'
 exact hp'⟩
theorem c301 (bw bh bi r:Nat) (n k:Int) (d:Ent) (out:List Msg) (bs:List Int):Sp Tryz.prog 301 [pt bw,.int .i64 k] [.hp (workC bw bh bi r n d out bs)] fun K=>∀ A cap,K (.returned (.slice A (othersF d.sh k).length cap)) [.hp (own i64E A cap (othersF d.sh k)),.hp (workC bw bh bi r n d out bs)]:=by
 refine Zen Tryz.func301 U U U fun e X Φ hS=>Zoc 0 work_op U<|fun ok be A cap Aq cq=>?_
 refine Zsr<|Zy U<|Zns<|Zy U<|Znqs ?_
 refine Za 6 [1,0,1] U U<|Zv (yda 1 (m:=4) U U U U)<|Zm U<|Zn ?_
 refine Zbl ?_
 refine Zic (fun _ hs=>sep_nil (E:=i64E) hs) ?_
 refine Zlq (ι:={ p:Nat × Option Addr × Nat // p.1≤4 }) (fun p=>[(15,.int .i64 (p.1.1:Int)),(14,.agg [.bool d.sh.a,.bool d.sh.b,.bool d.sh.c,.bool d.sh.d].toArray),(5,.slice p.1.2.1 (othK d.sh k p.1.1).length p.1.2.2),(1,.int .i64 k)]) (fun p=>[.hp (own i64E p.1.2.1 p.1.2.2 (othK d.sh k p.1.1))]) (fun p=>4-p.1.1) ⟨(0,none,0),by simp⟩ ⟨U,U,U,U,trivial⟩ [0] U fun p=>Zsr<|Zv (ylt U U)<|Znq<|Zif U (fun h16=>?_) (fun h16=>?_)
 refine Zkn<|Zsq<|Zbl<|Zsr<|Zm U ?_
 rotate_left
 refine Zex<|Zxt<|Zxt<|Zxx<|Zxs<|Zb 2 U<|Zn ?_
 refine Zrt ?_
 rotate_left
 ·refine Zv (yix (i:=p.1.1) U U (sh_nth d.sh (by omega)) Tryz.underlying163 (Nat.ble_eq_true_of_le (show p.1.1+1≤4 by omega)))<|Zb 2 U<|Zns<|Zb 2 U<|Zgb U U (fun h20=>?_) (fun h20=>?_)
  refine Zg' U U h20<|Zm U<|Zg' U U h20<|Zm U<|Zg' U U h20<|Zv (yne U U)<|Zv (ypt' U h20 U)<|Zn<|Zif U (fun h24=>?_) (fun h24=>?_)
  refine Zrg<|Zb 2 U ?_
  rotate_left
  refine Zsk<|Zxn<|Znx<|Zrg<|Zv (yadd U U (i64w U (by omega)))<|Zm U<|Znl ?_
  rotate_left
  refine Zu' U U h20 U<|Zu' U U h20 U<|Zu' U U h20 U<|Zv (ypf' U h20 U)<|Zn<|Zcf U<|Zsk<|Zxn<|Znx ?_
  refine Zrg<|Zv (yadd U U (i64w U (by omega)))<|Zm U<|Znl ?_
  rotate_left
  ·have e1:othK d.sh k (p.1.1+1)=othK d.sh k p.1.1++[(p.1.1:Int)]:=by rw [othK,if_pos (by rw [h20];simpa using h24)]
   have hl:=oth_len d.sh k p.1.1
   have hm:(othK d.sh k p.1.1).length+[(p.1.1:Int)].length≤maxLen:=ml_le (by show (othK d.sh k p.1.1).length+1≤_;omega)
   refine Ze (ebi U)<|fun B=>Zw ?_
   refine Ze (eap' 1 0 elI64 U U U own.rd U U U (fun _ _=>U) (by show (_+1)*8≤_;omega) hm)<|fun A' cap'=>Zw<|Zy U<|Znl<|Zxn<|Znx<|Zrg<|Zv (yadd U U (i64w U (by omega)))<|Zm U<|Znl ?_
   rw [← e1]
   refine Zlr ⟨(p.1.1+1,A',cap'),by omega⟩ (by show 4-(p.1.1+1)<4-p.1.1;omega) ⟨U,U,U,U,trivial⟩ [1] 1 U U
  ·have e1:othK d.sh k (p.1.1+1)=othK d.sh k p.1.1:=by rw [othK,if_neg (by rw [h20];simpa using h24)]
   rw [← e1]
   refine Zlr ⟨(p.1.1+1,p.1.2.1,p.1.2.2),by omega⟩ (by show 4-(p.1.1+1)<4-p.1.1;omega) ⟨U,U,U,U,trivial⟩ [0] 0 U U
  ·have e1:othK d.sh k (p.1.1+1)=othK d.sh k p.1.1:=by rw [othK,if_neg (by simp [h20])]
   rw [← e1]
   refine Zlr ⟨(p.1.1+1,p.1.2.1,p.1.2.2),by omega⟩ (by show 4-(p.1.1+1)<4-p.1.1;omega) ⟨U,U,U,U,trivial⟩ [0] 0 U U
 ·have e1:othersF d.sh k=othK d.sh k p.1.1:=by
   have:=p.2
   rw [show p.1.1=4 by omega]
   rfl
  rw [← e1]
  refine Zfx [1,1,1,1,1,1] (work_fold (d:=d) (out:=out) ok) U<|Zre (.t U .n) (hS _ _) [1,0] 0 U U U U
theorem c230 (bw bh bi r:Nat) (n kind dst:Int) (hn:U32 n) (by_:Bool) (d:Ent) (out:List Msg) (bs:List Int) (hl:out.length≤1000000):Sp Tryz.prog 230 [pt bw,.int .i64 kind,.int .i64 dst,.bool by_] [.hp (workC bw bh bi r n d out bs)] fun K=>K (.returned (.tuple #[])) [.hp (workC bw bh bi r n d (out++[mkM kind 4 dst n (if by_ then lineB bs n else b16z) hn]) bs)]:=by
 cases by_ with
 | false=>
  refine Zen Tryz.func230 U U U fun e X Φ hS=>Zoc 0 work_op U<|fun ok be A cap Aq cq=>?_
  refine Zsr<|Za 6 [3,0] U U<|Zv (yb l117 U)<|Ze (eal z117) fun b8=>Zw<|Ze (esw 0 (m:=20) U U U U U U U)<|Zw0 ?_
  refine Znqs<|Zm U<|Zn<|Zcf U<|Zkn ?_
  refine Zbs 0 (msgE.cells (mkM kind 4 dst n b16z hn)) U U U ?_
  refine Zhf 9 [3] U U<|Zht 0 U (ym U)<|Zht 1 U (ym U)<|Zht 2 U (yn U)<|Zht 3 U (yf 0 U)<|Zht 4 U (yf 0 U)<|Zht 5 U (yd 1 U U U)<|Zht 6 U (ydw 0 (m:=20) U U (Enc.len ..))<|ZH1 7<|Zoe U (eb1 elMsg (by decide) U) fun A40=>Zwh 2 U ?_
  have hm:out.length+[mkM kind 4 dst n b16z hn].length≤maxLen:=ml_le (by show out.length+1≤_;omega)
  refine ZH1 8<|Zoe U (eap' 1 0 elMsg U U U own.rd U U U (fun _ _=>U) (by simp;omega) hm)<|fun A' cap'=>Zwh 2 U<|ZHn<|Ztl U<|Ztv (yn U)<|Ztv (yf 0 U)<|Ztv (yf 0 U)<|Zte (es 3 U U U U U)<|Ztw<|Ztn<|Zee ?_
  refine Zfx [3,3,1,2,2,2] (work_fold (d:=d) (out:=out++[mkM kind 4 dst n b16z hn]) ok) U<|Zre .n hS [0] 2 U U U U
 | true=>
  refine Zen Tryz.func230 U U U fun e X Φ hS=>Zoc 0 work_op U<|fun ok be A cap Aq cq=>?_
  refine Zsr<|Za 6 [3,0] U U<|Zv (yb l117 U)<|Ze (eal z117) fun b8=>Zw<|Ze (esw 0 (m:=20) U U U U U U U)<|Zw0 ?_
  refine Znqs<|Zm U<|Zn<|Zct U ?_
  refine Zbs 0 (msgE.cells (mkM kind 4 dst n b16z hn)) U U U ?_
  refine Zhd [0,5] U U<|Zht 0 U (ym U)<|Zht 1 U (yn U)<|Zht 2 U (yf 2 U)<|Zht 3 U (yd 0 U U U)<|Zht 4 U (yn U)<|Zht 5 U (yf 0 U)<|Zht 6 U (yd 4 U U U)<|Zht 7 U (ym U)<|Zht 8 U (yn U) ?_
  refine Zht 9 U (yf 3 U)<|Zht 10 U (yd 0 U U U) ?_
  refine ZH1 11<|Zok (c258' bi n bs ok) [1] U U U<|Zqh 2 U<|Zht 12 U (ym U)<|Zht 13 U (yx U U)<|Zht 14 U (yx U U)<|Zht 15 U (yf 4 U)<|ZH1 16<|Zoe U (esc 1 (m:=16) U U U (pt_mbs _ _) U (Enc.len ..) (by rw [Enc.len];decide) (Enc.allL ..))<|Zwh0 2 U<|ZHn<|Znx ?_
  refine Zhf 9 [4] U U<|Zht 0 U (ym U)<|Zht 1 U (ym U)<|Zht 2 U (yn U)<|Zht 3 U (yf 0 U)<|Zht 4 U (yf 0 U)<|Zht 5 U (yd 2 U U U)<|Zht 6 U (ydw 1 (m:=20) U U (Enc.len ..))<|ZH1 7<|Zoe U (eb1 elMsg (by decide) U) fun A40=>Zwh 2 U ?_
  have hm:out.length+[mkM kind 4 dst n (lineB bs n) hn].length≤maxLen:=ml_le (by show out.length+1≤_;omega)
  refine ZH1 8<|Zoe U (eap' 1 0 elMsg U U U own.rd U U U (fun _ _=>U) (by simp;omega) hm)<|fun A' cap'=>Zwh 2 U<|ZHn<|Ztl U<|Ztv (yn U)<|Ztv (yf 0 U)<|Ztv (yf 0 U)<|Zte (es 4 U U U U U)<|Ztw<|Ztn<|Zee ?_
  refine Zfx [4,4,1,3,3,1] (work_fold (d:=d) (out:=out++[mkM kind 4 dst n (lineB bs n) hn]) ok) U<|Zre .n hS [0] 2 U U U U
def sendM (m:Msg) (kind dst:Int) (b:B16:=b16z):Msg:=mkM kind 4 dst m.line b m.hn
def beginF (bs:List Int) (d:Ent) (m:Msg):Ent × List Int × List Msg:=
 if m.kind=3 then ((leaveF d m.src),(if d.o=m.src then setLn bs m.line m.bs else bs),[sendM m 7 m.src])
 else
  let e:=leaveF d m.src
  if 0≤e.o then (busyF e m 1 false,bs,[sendM m (3+m.kind) e.o])
  else if m.kind=2 then
   if othersF e.sh m.src=[] then (busyF (ownF e m.src) m 0 true,bs,[sendM m 10 m.src (lineB bs m.line)])
   else (busyF e m (othersF e.sh m.src).length false,bs,(othersF e.sh m.src).map (sendM m 6))
  else if othersF e.sh m.src=[] then (busyF (ownF e m.src) m 0 true,bs,[sendM m 9 m.src (lineB bs m.line)])
  else (busyF (e.setS (e.sh.set m.src true)) m 0 true,bs,[sendM m 8 m.src (lineB bs m.line)])
def writeD (d:Ent):Ent:=(ownF d d.asks).setT true
theorem c228 (bw bh bi r:Nat) (n:Int) (hn:U32 n) (d:Ent) (out:List Msg) (bs:List Int) (hl:out.length≤1000000):Sp Tryz.prog 228 [pt bw] [.hp (workC bw bh bi r n d out bs)] fun K=>K (.returned (.tuple #[])) [.hp (workC bw bh bi r n (writeD d) (out++[mkM 10 4 d.asks n (lineB bs n) hn]) bs)]:=by
 refine Zen Tryz.func228 U U U fun e X Φ hS=>Zoc 0 work_op U<|fun ok be A cap Aq cq=>?_
 refine Zsr<|Za 8 [1,0,6,1] U U ?_
 refine Zfl [0,0,0,0,0,0] (work_fold (d:=d) (out:=out) ok) U<|Zk (c229 ..) [0] U U<|Zq<|Zns<|Za 4 [1] U U ?_
 refine Zol 0 work_op U<|fun _ be A cap Aq cq=>Zv (yd 0 U U U)<|Za 3 [6,1] U U ?_
 refine Zfl [0,0,0,0,0,0] (work_fold (d:=ownF d d.asks) (out:=out) ok) U ?_
 refine Zk (c230 bw bh bi r n 10 d.asks hn true (ownF d d.asks) out bs hl) [0] U U<|Zq<|Zn<|Zrg<|Za 3 [1] U U ?_
 refine Zol 0 work_op U<|fun _ be A cap Aq cq=>Zv (yd 0 U U U)<|Za 2 [9] U U<|Ze (es 1 U U U U U)<|Zw0<|Znl<|Zee ?_
 refine Zfx [0,0,0,0,0,0] (work_fold (d:=writeD d) (out:=out++[mkM 10 4 d.asks n (lineB bs n) hn]) ok) U<|Zre .n hS [0] 0 U U U U
theorem c255 (bw bh bi r:Nat) (m:Msg) (d:Ent) (out:List Msg) (bs:List Int) (hk:m.kind=1) (h0:0≤m.src) (h4:m.src<4) (hl:out.length≤1000000):Sp Tryz.prog 255 [pt bw,.agg (msgE.arr m)] [.hp (workC bw bh bi r m.line d out bs)] fun K=>K (.returned (.tuple #[])) [.hp (workC bw bh bi r m.line (beginF bs d m).1 (out++(beginF bs d m).2.2) (beginF bs d m).2.1)]:=by
 refine Zen Tryz.func255 U U U fun e X Φ hS=>Zsr<|Ze (ebxE U) fun b3=>Zw<|Zns<|Za 3 [1,0] U U<|Zk (c299 ..) [1] U U ?_
 refine Zq<|Znb<|Zsr<|Za 3 [1] U U ?_
 refine Zol 0 work_op U<|fun ok be A cap Aq cq=>Zv (yd 0 U U U)<|Za 5 [0,1] U U<|Zn<|Zif U (fun h19=>?_) (fun h19=>?_)
 refine Zsr<|Za 8 [1,0,0,1] U U ?_
 rotate_left
 refine Zsr<|Za 3 [1,6] U U ?_
 rotate_left
 ·have e1:beginF bs d m=(busyF (leaveF d m.src) m 1 false,bs,[sendM m 4 (leaveF d m.src).o]):=by
   unfold beginF;rw [if_neg (by omega)];simp only [];rw [if_pos h19,hk];rfl
  rw [e1] at hS
  refine Zfl [0,0,0,0,0,0] (work_fold (d:=leaveF d m.src) (out:=out) ok) U ?_
  refine Zol 0 work_op U<|fun _ be A cap Aq cq=>?_
  refine Zfl [0,0,0,0,0,0] (work_fold (d:=leaveF d m.src) (out:=out) ok) U ?_
  refine Zk (c230 bw bh bi r m.line 4 (leaveF d m.src).o m.hn false (leaveF d m.src) out bs hl) [0] U U<|Zq<|Zn<|Zrg<|Zm U<|Zv (ydw 1 (m:=20) U U (Enc.len ..))<|Zk (c300 ..) [0] U U<|Zq<|Znl ?_
  refine Zxn<|Zee<|Zre .n hS [0] 1 U U U U
 ·refine Zfl [0,0,0,0,0,0] (work_fold (d:=leaveF d m.src) (out:=out) ok) U<|Zk (c301 ..) [0] U U<|fun A_1=>fun cap_1=>Zq<|Zv (sl_of ⟨_,Tryz.underlying399⟩ U)<|Zb 2 U<|Zn ?_
  refine Zif U (fun h40=>?_) (fun h40=>?_)
  refine Zsq ?_
  rotate_left
  refine Zsr<|Za 3 [1,2] U U<|Zk (c229 ..) [1] U U<|Zq<|Zns<|Zm U ?_
  refine Za 2 [1,2] U U ?_
  rotate_left
  ·have ho:othersF (leaveF d m.src).sh m.src≠[]:=fun h=>by rw [h] at h40;exact absurd h40 (by decide)
   have e1:beginF bs d m=(busyF ((leaveF d m.src).setS ((leaveF d m.src).sh.set m.src true)) m 0 true,bs,[sendM m 8 m.src (lineB bs m.line)]):=by
    unfold beginF;rw [if_neg (by omega)];simp only [];rw [if_neg h19,if_neg (by omega),if_neg ho]
   rw [e1] at hS
   obtain ⟨i,hi⟩:=Int.eq_ofNat_of_zero_le h0
   refine Zoc 1 work_op U<|fun _ be A cap Aq cq=>?_
   refine Zhd [1] U U<|Zht 0 U (ym U)<|Zht 1 U (yn U)<|Zht 2 U (yf 1 U)<|Zht 3 U (yd 0 U U U)<|Zht 4 U (yf 1 U)<|Zht 5 U (yd 6 U U U)<|Zht 6 U (yn U)<|Zht 7 U (yf 1 U) ?_
   refine Zht 8 U (yai (i:=i) Tryz.underlying163 U (congrArg (fun x=>some (Value.int .i64 x)) hi) (by omega)) ?_
   refine ZH1 9<|Zoe U (es 0 U U U (put_sh _ _ _ (i:=i) (by omega)) U)<|Zwh0 1 U<|ZHn<|Zxs<|Za 3 [1,7] U U ?_
   rw [← hi]
   refine Zfl [1,0,0,0,0,0] (work_fold (d:=(leaveF d m.src).setS ((leaveF d m.src).sh.set m.src true)) (out:=out) ok) U ?_
   refine Zk (c230 bw bh bi r m.line 8 m.src m.hn true ((leaveF d m.src).setS ((leaveF d m.src).sh.set m.src true)) out bs hl) [0] U U<|Zq<|Zn<|Zrg<|Zm U<|Zv (ydw 2 (m:=20) U U (Enc.len ..))<|Zk (c300 ..) [0] U U<|Zq<|Znl ?_
   refine Zxn<|Zee<|Zre .n hS [0] 2 U U U U
  ·have ho:othersF (leaveF d m.src).sh m.src=[]:=List.length_eq_zero_iff.1 (by omega)
   have e1:beginF bs d m=(busyF (ownF (leaveF d m.src) m.src) m 0 true,bs,[sendM m 9 m.src (lineB bs m.line)]):=by
    unfold beginF;rw [if_neg (by omega)];simp only [];rw [if_neg h19,if_neg (by omega),if_pos ho]
   rw [e1] at hS
   refine Zk (c230 bw bh bi r m.line 9 m.src m.hn true (ownF (leaveF d m.src) m.src) out bs hl) [0] U U<|Zq<|Zn<|Zrg<|Zm U<|Zv (ydw 2 (m:=20) U U (Enc.len ..))<|Zk (c300 ..) [0] U U<|Zq<|Znl ?_
   refine Zxn<|Zee<|Zre .n hS [0] 2 U U U U
theorem c256 (bw bh bi r:Nat) (m:Msg) (d:Ent) (out:List Msg) (bs:List Int) (hk:m.kind=2) (hl:out.length≤900000):Sp Tryz.prog 256 [pt bw,.agg (msgE.arr m)] [.hp (workC bw bh bi r m.line d out bs)] fun K=>K (.returned (.tuple #[])) [.hp (workC bw bh bi r m.line (beginF bs d m).1 (out++(beginF bs d m).2.2) (beginF bs d m).2.1)]:=by
 refine Zen Tryz.func256 U U U fun e X Φ hS=>Zsr<|Ze (ebxE U) fun b3=>Zw<|Zns<|Za 3 [1,0] U U<|Zk (c299 ..) [1] U U ?_
 refine Zq<|Znqs<|Za 3 [1] U U ?_
 refine Zol 0 work_op U<|fun ok be A cap Aq cq=>Zv (yd 0 U U U)<|Za 4 [0,1] U U<|Zn<|Zif U (fun h18=>?_) (fun h18=>?_)
 refine Zsr<|Za 8 [1,0,0,1] U U ?_
 rotate_left
 refine Zks<|Za 3 [1,6] U U ?_
 rotate_left
 ·have e1:beginF bs d m=(busyF (leaveF d m.src) m 1 false,bs,[sendM m 5 (leaveF d m.src).o]):=by
   unfold beginF;rw [if_neg (by omega)];simp only [];rw [if_pos h18,hk];rfl
  rw [e1] at hS
  refine Zfl [0,0,0,0,0,0] (work_fold (d:=leaveF d m.src) (out:=out) ok) U ?_
  refine Zol 0 work_op U<|fun _ be A cap Aq cq=>?_
  refine Zfl [0,0,0,0,0,0] (work_fold (d:=leaveF d m.src) (out:=out) ok) U ?_
  refine Zk (c230 bw bh bi r m.line 5 (leaveF d m.src).o m.hn false (leaveF d m.src) out bs (by omega)) [0] U U<|Zq<|Zns<|Zm U<|Zv (ydw 1 (m:=20) U U (Enc.len ..))<|Zk (c300 ..) [0] U U<|Zq<|Znl ?_
  refine Zxr<|Zr1<|Zre .n hS [0] 1 U U U U
 ·refine Zfl [0,0,0,0,0,0] (work_fold (d:=leaveF d m.src) (out:=out) ok) U<|Zk (c301 ..) [0] U U<|fun A_1=>fun cap_1=>Zq<|Zy U<|Znqs ?_
  refine Zm U<|Zv (sl_of ⟨_,Tryz.underlying399⟩ U)<|Zm U<|Znb ?_
  have hdef:beginF bs d m=if othersF (leaveF d m.src).sh m.src=[] then (busyF (ownF (leaveF d m.src) m.src) m 0 true,bs,[sendM m 10 m.src (lineB bs m.line)]) else (busyF (leaveF d m.src) m (othersF (leaveF d m.src).sh m.src).length false,bs,(othersF (leaveF d m.src).sh m.src).map (sendM m 6)):=by
   unfold beginF;rw [if_neg (by omega)];simp only [];rw [if_neg h18,if_pos hk]
  have ho4:(othersF (leaveF d m.src).sh m.src).length≤4:=oth_len _ _ 4
  generalize othersF (leaveF d m.src).sh m.src=os at hdef ho4 ⊢
  have hout:out=out++(os.take 0).map (sendM m 6):=by simp
  rw [hout]
  refine Zlq (ι:={ i:Nat // i≤os.length }) (fun i=>[(37,.int .i64 (i.1:Int)),(36,.int .i64 (os.length:Int)),(35,.slice A_1 os.length cap_1),(4,.slice A_1 os.length cap_1),(0,pt bw),(3,pt b3)]) (fun i=>[.hp (workC bw bh bi r m.line (leaveF d m.src) (out++(os.take i.1).map (sendM m 6)) bs)]) (fun i=>os.length-i.1) ⟨0,by omega⟩ ⟨U,U,U,U,U,U,trivial⟩ [1] U fun i=>Zsr<|Zv (ylt U U)<|Znq<|Zif U (fun h38=>?_) (fun h38=>?_)
  refine Zkn<|Zsq<|Zbl<|Zsr<|Zv (yea 1 own.rd U U U (by first | assumption | omega) U Tryz.underlying399 U)<|Zv (yec (m:=0) 1 own.rd U (gE (by first | assumption | omega)) U U U)<|Zy U<|Zn ?_
  refine Zrg<|Zb 2 U ?_
  rotate_left
  refine Zex<|Zxt<|Zxt<|Zxx<|Zxs<|Zm U<|Zv (ydw 2 (m:=20) U U (Enc.len ..))<|Zm U<|Zv (sl_of ⟨_,Tryz.underlying399⟩ U) ?_
  refine Zk (c300 ..) [0] U U<|Zq<|Zns<|Zm U<|Zv (sl_of ⟨_,Tryz.underlying399⟩ U)<|Zv (yeq U U)<|Zn ?_
  refine Zif U (fun h52=>?_) (fun h52=>?_)
  refine Zrg<|Zm U ?_
  rotate_left
  refine Zsk<|Zee ?_
  rotate_left
  ·have hx:=gE (l:=os) (k:=i.1) (by omega)
   have e2:out++(os.take (i.1+1)).map (sendM m 6)=(out++(os.take i.1).map (sendM m 6))++[mkM 6 4 os[i.1] m.line (if false=true then lineB bs m.line else b16z) m.hn]:=by
    rw [List.take_add_one,hx,Option.toList_some,List.map_append,← List.append_assoc];rfl
   have hl2:(out++(os.take i.1).map (sendM m 6)).length≤1000000:=by simp;omega
   refine Zk (c230 bw bh bi r m.line 6 os[i.1] m.hn false (leaveF d m.src) (out++(os.take i.1).map (sendM m 6)) bs hl2) [0] U U<|Zq<|Znl<|Zxn<|Znx<|Zrg<|Zv (yadd U U (i64w U (by omega)))<|Zm U<|Znl ?_
   rw [← e2]
   refine Zlr ⟨i.1+1,by omega⟩ (by show os.length-(i.1+1)<os.length-i.1;omega) ⟨U,U,U,U,U,U,trivial⟩ [0] 0 U U
  ·have h0:os=[]:=List.length_eq_zero_iff.1 (by omega)
   subst h0
   rw [if_pos rfl] at hdef
   rw [hdef] at hS
   have e2:out++(([]:List Int).take i.1).map (sendM m 6)=out:=by simp
   rw [e2]
   refine Zk (c228 bw bh bi r m.line m.hn (busyF (leaveF d m.src) m (([]:List Int).length:Int) false) out bs (by omega)) [0] U U<|Zq<|Znl<|Zee<|Zre .n hS [0] 2 U U U U
  ·have h0:os≠[]:=fun h=>h52 (by rw [h];rfl)
   have hi:=i.2
   have e2:os.take i.1=os:=List.take_of_length_le (by omega)
   rw [if_neg h0] at hdef
   rw [hdef] at hS
   rw [e2]
   refine Zre .n hS [0] 2 U U U U
theorem c257 (bw bh bi r:Nat) (m:Msg) (d:Ent) (out:List Msg) (bs:List Int) (hk:m.kind=3) (hl:out.length≤1000000):Sp Tryz.prog 257 [pt bw,.agg (msgE.arr m)] [.hp (workC bw bh bi r m.line d out bs)] fun K=>K (.returned (.tuple #[])) [.hp (workC bw bh bi r m.line (beginF bs d m).1 (out++(beginF bs d m).2.2) (beginF bs d m).2.1)]:=by
 refine Zen Tryz.func257 U U U fun e X Φ hS=>Zoc 0 work_op U<|fun ok be A cap Aq cq=>?_
 refine Zsr<|Ze (ebxE U) fun b3=>Zw<|Znq<|Zsq<|Zhd [] U U<|Zht 0 U (ym U)<|Zht 1 U (yn U)<|Zht 2 U (yf 1 U) ?_
 refine Zht 3 U (yd 1 U U U)<|Zht 4 U (yn U)<|Zht 5 U (yf 0 U)<|Zht 6 U (yd 2 U U U)<|Zht 7 U (yf 1 U)<|Zht 8 U (yd 0 U U U)<|Zht 9 U (yeq U U)<|ZHn<|Znx<|Zif U (fun h13=>?_) (fun h13=>?_)
 refine Zsq ?_
 rotate_left
 refine Zkn<|Zrg<|Za 3 [1,0] U U ?_
 rotate_left
 ·have e1:beginF bs d m=(d.setO (-1),setLn bs m.line m.bs,[sendM m 7 m.src]):=by
   unfold beginF leaveF;rw [if_pos hk,if_pos h13,if_pos h13]
  rw [e1] at hS
  refine Zhd [6] U U<|Zht 0 U (ym U)<|Zht 1 U (yn U)<|Zht 2 U (yf 2 U)<|Zht 3 U (yd 1 U U U)<|Zht 4 U (yn U)<|Zht 5 U (yf 0 U)<|Zht 6 U (yd 5 U U U)<|Zht 7 U (ym U)<|Zht 8 U (yn U) ?_
  refine Zht 9 U (yf 3 U)<|Zht 10 U (yd 1 U U U)<|Zht 11 U (yf 4 U)<|Zht 12 U (yda 0 (m:=16) U U (msg_bs' _) (Enc.len ..)) ?_
  refine ZH1 13<|Zok (c56' bi m.line bs m.bs ok) [0] U U U<|Zqh 1 U<|ZHn<|Znx<|Zrg<|Za 5 [1,2] U U ?_
  refine Zv (yf 0 U)<|Ze (es 3 U U U U U)<|Zw0<|Zn<|Zrg<|Za 3 [1,1] U U ?_
  refine Zfl [2,2,2,2,2,0] (work_fold (d:=d.setO (-1)) (out:=out) (ok.set m.line U m.bs)) U ?_
  refine Zk (c230 bw bh bi r m.line 7 m.src m.hn false (d.setO (-1)) out (setLn bs m.line m.bs) hl) [0] U U<|Zq<|Znl<|Zee<|Zre .n hS [0] 1 U U U U
 ·have e1:beginF bs d m=(d,bs,[sendM m 7 m.src]):=by
   unfold beginF leaveF;rw [if_pos hk,if_neg h13,if_neg h13];rfl
  rw [e1] at hS
  refine Zfl [1,1,1,1,1,1] (work_fold (d:=d) (out:=out) ok) U ?_
  refine Zk (c230 bw bh bi r m.line 7 m.src m.hn false d out bs hl) [0] U U<|Zq<|Znl<|Zee<|Zre .n hS [0] 1 U U U U
structure HD where
 bs:List Int
 E:List Ent
def entOf (E:List Ent) (n:Nat):Ent:=E.getD n ent0
structure RqOk (n:Int) (m:Msg):Prop where
 k:m.kind=1∨m.kind=2∨m.kind=3
 s0:0≤m.src
 s4:m.src<4
 l:m.line=n
structure EW (k:Nat) (n:Int) (d:Ent):Prop where
 a:0≤d.asks∧d.asks<4
 w:d.waits≤4
 q:∀ m∈d.q,RqOk n m
 l:d.q.length≤k
structure HOk (k:Nat) (h:HD):Prop where
 r:∀ a∈h.bs,0≤a∧a<256
 l:h.bs.length≤1048576
 p:0<h.bs.length
 e:h.E.length=h.bs.length/16
 w:∀ n,n<h.E.length→EW k n (entOf h.E n)
theorem EW.mono {k k':Nat} {n:Int} {d:Ent} (h:EW k n d) (hk:k≤k'):EW k' n d:=⟨h.a,h.w,h.q,Nat.le_trans h.l hk⟩
theorem HOk.mono {k k':Nat} {h:HD} (a:HOk k h) (hk:k≤k'):HOk k' h:=⟨a.r,a.l,a.p,a.e,fun n hn=>(a.w n hn).mono hk⟩
def entC (b:Nat) (d:Ent):HP:=fun h=>∃ A cap,Sep [.blk b 165 (d.cs (.slice A d.q.length cap)),.hp (own msgE A cap d.q)] h
theorem ent_op {b:Nat} {d:Ent}:Op_ (entC b d) fun K=>∀ A cap,K [.blk b 165 (d.cs (.slice A d.q.length cap)),.hp (own msgE A cap d.q)] := .mk fun G k h hh=>by
 obtain ⟨A,cap,hs⟩:=hh
 exact ⟨_,k A cap,hs⟩
theorem ent_fold {b cap:Nat} {A:Option Addr} {d:Ent}:∀ h,Sep [.blk b 165 (d.cs (.slice A d.q.length cap)),.hp (own msgE A cap d.q)] h→entC b d h:=fun _ hs=>⟨A,cap,hs⟩
abbrev entsC (E:List Ent) (es:List (Nat × Nat)):HP:=manyC (fun x:Nat × Nat=>entC x.2 (entOf E x.1)) es
structure KOk (E:List Ent) (es:List (Nat × Nat)):Prop where
 nd:(keys es).Nodup
 lt:∀ n∈keys es,n<E.length
 no:∀ n,n ∉ keys es→entOf E n=ent0
def homC (k b:Nat) (h:HD):HP:=fun g=>HOk k h∧∃ bi r es,KOk h.E es∧Sep [.blk b 158 [pt bi,.map (some r)],.hp (imgC bi h.bs),mapC .u32 r (mp es),.hp (entsC h.E es)] g
theorem hom_op {k b:Nat} {h:HD}:Op_ (homC k b h) fun K=>HOk k h→∀ bi r es,KOk h.E es→K [.blk b 158 [pt bi,.map (some r)],.hp (imgC bi h.bs),mapC .u32 r (mp es),.hp (entsC h.E es)] := .mk fun G k g hh=>by
 obtain ⟨ok,bi,r,es,hk,hs⟩:=hh
 exact ⟨_,k ok bi r es hk,hs⟩
theorem hom_fold {k b bi r:Nat} {h:HD} {es:List (Nat × Nat)} (ok:HOk k h) (hk:KOk h.E es):∀ g,Sep [.blk b 158 [pt bi,.map (some r)],.hp (imgC bi h.bs),mapC .u32 r (mp es),.hp (entsC h.E es)] g→homC k b h g:=fun _ hs=>⟨ok,bi,r,es,hk,hs⟩
theorem ents_op {E:List Ent} {n b:Nat} {a c:List (Nat × Nat)}:Op_ (entsC E (a++(n,b)::c)) fun K=>K [.hp (entC b (entOf E n)),.hp (entsC E (a++c))] := .mk fun G k h hh=>⟨_,k,many_out a hh⟩
theorem ents_in {E:List Ent} {n b:Nat} {a c:List (Nat × Nat)}:∀ h,Sep [.hp (entC b (entOf E n)),.hp (entsC E (a++c))] h→entsC E (a++(n,b)::c) h:=fun _ hs=>many_in a hs
theorem c62 (k b:Nat) (h:HD):Sp Tryz.prog 62 [pt b] [.hp (homC k b h)] fun K=>K (.returned (.bool false)) [.hp (homC k b h)]:=by
 refine Zen Tryz.func62 U U U fun e X Φ hS=>Zoc 0 hom_op U<|fun ok bi r es hk=>?_
 refine Zsr<|Zy U<|Zns<|Zm U<|Zv (ypeq U U U)<|Zb 2 U ?_
 refine Za 3 [0,0] U U<|Zg U U<|Zv (ypeq U U U)<|Zb 2 U ?_
 refine Znr ?_
 refine Zfx [0,0,0,0] (hom_fold (k:=k) (h:=h) ok hk) U<|Zre (.t U .n) hS [0] 0 U U U U
theorem c150 (k b:Nat) (h:HD):Sp Tryz.prog 150 [pt b] [.hp (homC k b h)] fun K=>K (.returned (.int .i64 (h.E.length:Int))) [.hp (homC k b h)]:=by
 refine Zen Tryz.func150 U U U fun e X Φ hS=>?_
 refine Zsq<|Zrg<|Zy U<|Znqs<|Zm U<|Zk (c62 ..) [0] U U<|Zq ?_
 refine Zn<|Zcf U<|Zks<|Za 3 [0] U U ?_
 refine Zol 0 hom_op U<|fun ok bi r es hk=>Zv (yd 0 U U U)<|Zk (c74 ..) [1] U U<|Zq<|Zv (yquo U U (by decide) U)<|Zy U<|Znr ?_
 rw [quo16 ok.l,← ok.e]
 refine Zfx [1,0,0,0] (hom_fold (k:=k) (h:=h) ok hk) U<|Zre (.t U .n) hS [0] 0 U U U U
theorem c81 (A:Option Addr) (cap:Nat) (d:Ent) (hq:d.q.length≤1048576):Sp Tryz.prog 81 [.agg (d.cs (.slice A d.q.length cap)).toArray] [.hp (own msgE A cap d.q)] fun K=>∀ A' cap',K (.returned (.agg (d.cs (.slice A' d.q.length cap')).toArray)) [.hp (own msgE A' cap' d.q),.hp (own msgE A cap d.q)]:=by
 refine Zen Tryz.func81 U U U fun e X Φ hS=>Zoc 0 own_len U<|fun hA hcp hcm=>?_
 refine Zsr<|Ze (ebx U) fun b1=>Zw<|Ze (eal z165) fun b2=>Zw<|Zns<|Za 2 [10,1] U U ?_
 refine Zk (c123 _ A cap d.q own.rd hA hq) [2] U U<|fun A'=>fun cap'=>Zq<|Zv (yf 10 U)<|Ze (es 3 U U U U U)<|Zw0<|Zns<|Zv (ydw 3 (m:=11) U U U) ?_
 refine Ze (esw 2 (m:=11) U U U U U U U)<|Zw0<|Znr<|Zre (.wh 2 (m:=11) U U U .n) (hS _ _) [0,0] 2 U U U U
theorem c151 (k b n:Nat) (h:HD) (hn:n<h.E.length) (hk2:k≤1000000):Sp Tryz.prog 151 [pt b,.int .u32 (n:Int)] [.hp (homC k b h)] fun K=>∀ A cap,K (.returned (.agg ((entOf h.E n).cs (.slice A (entOf h.E n).q.length cap)).toArray)) [.hp (own msgE A cap (entOf h.E n).q),.hp (homC k b h)]:=by
 refine Zen Tryz.func151 U U U fun e X Φ hS=>Zoc 0 hom_op U<|fun ok bi r es hk=>?_
 have hl:(entOf h.E n).q.length≤1048576:=by have:=(ok.w n hn).l;omega
 by_cases hin:n∈keys es
 ·obtain ⟨a,b',c,rfl,ha,hc⟩:=keys_split hk.nd hin
  have hlk:=lk_mid (b:=b') hc ha
  refine Zoc 3 ents_op U<|?_
  refine Zsr<|Ze (eal z165) fun b4=>Zw<|Znqs<|Za 4 [1,3] U U ?_
  refine Zm U<|Zv (ylk' 5 hlk U U U Tryz.underlying156 Tryz.underlying40 zv162)<|Zy U<|Zns<|Zm U<|Zv (ypne U U U)<|Zn ?_
  refine Zct U<|Zsr<|Zb 2 U ?_
  refine Zol 1 ent_op U<|fun A cap=>Zv (ydw 0 (m:=11) U U U) ?_
  refine Zk (c81 A cap (entOf h.E n) hl) [1] U U<|fun A'=>fun cap'=>Zq<|Ze (esw 3 (m:=11) U U U U U U U)<|Zw0<|Znr<|Zr1 ?_
  refine Zfx [2,1] (ent_fold (b:=b') (d:=entOf h.E n)) U ?_
  refine Zfx [0,2] (ents_in (E:=h.E) (n:=n) (b:=b') (a:=a) (c:=c)) U ?_
  refine Zfx [3,3,3,0] (hom_fold (k:=k) (h:=h) ok hk) U<|Zre (.wh 2 (m:=11) U U U .n) (hS _ _) [1,0] 1 U U U U
 ·have hlk:=lk_no hin
  refine Zsr<|Ze (eal z165) fun b4=>Zw<|Znqs<|Za 4 [1,1] U U ?_
  refine Zm U<|Zv (ylk' 3 hlk U U U Tryz.underlying156 Tryz.underlying40 zv162)<|Zy U<|Zns<|Zm U<|Zv (ypne U U U)<|Zn ?_
  refine Zcf U<|Zks<|Zv (yb l165 U)<|Ze (esw 0 (m:=11) U U U U U U U)<|Zw0<|Znr ?_
  rw [hk.no n hin] at hS
  refine Zix (fun _ hs=>sep_nil (E:=msgE) hs) ?_
  refine Zfx [2,2,2,2] (hom_fold (k:=k) (h:=h) ok hk) U<|Zre (.wh 2 (m:=11) U U U .n) (hS _ _) [1,0] 1 U U U U
abbrev stopH (c:Int):=panV (.iface 308 (.agg #[.int .i64 c]))
theorem c227 (fine:Bool) (why:Int):Sp Tryz.prog 227 [.bool fine,.int .i64 why] [] fun K=>(fine=true→K (.returned (.tuple #[])) [])∧(fine=false→K (.panicked (stopH why)) []):=by
 cases fine with
 | true=>
  refine Zen Tryz.func227 U U U fun e X Φ hS=>Zsr<|Zb 2 U<|Zn<|Zcf U<|Zsk<|Zee ?_
  refine Zre .n (hS.1 U) [] 0 U U U U
 | false=>
  refine Zen Tryz.func227 U U U fun e X Φ hS=>Zsr<|Zb 2 U<|Zn<|Zct U<|Zrg<|Zm U<|Zv (yb l308 U) ?_
  refine Zv (ymi Tryz.underlying308 U U)<|Zpn U ?_
  refine Zpe (hS.2 U) [] 0 U U
theorem c226 (bw bh bi r:Nat) (m:Msg) (d:Ent) (out:List Msg) (bs:List Int) (hk:m.kind=1∨m.kind=2∨m.kind=3) (h0:0≤m.src) (h4:m.src<4) (hl:out.length≤900000):Sp Tryz.prog 226 [pt bw,.agg (msgE.arr m)] [.hp (workC bw bh bi r m.line d out bs)] fun K=>K (.returned (.tuple #[])) [.hp (workC bw bh bi r m.line (beginF bs d m).1 (out++(beginF bs d m).2.2) (beginF bs d m).2.1)]:=by
 refine Zen Tryz.func226 U U U fun e X Φ hS=>?_
 refine Zsr<|Ze (ebxE U) fun b3=>Zw<|Zn<|Zrg<|Ze (emk .i64) fun r4=>Zw<|Zm U<|Zv (yfn U U)<|Ze (ein 0 U U U U U U Tryz.underlying315 Tryz.underlying114)<|Zw0<|Zm U ?_
 refine Zv (yfn U U)<|Ze (ein 0 U U U U U U Tryz.underlying315 Tryz.underlying114)<|Zw0<|Zm U<|Zv (yfn U U)<|Ze (ein 0 U U U U U U Tryz.underlying315 Tryz.underlying114)<|Zw0<|Za 3 [0,1] U U ?_
 rcases hk with hk | hk | hk
 ·rw [hk]
  refine Zv (ylk 0 U U U Tryz.underlying315 Tryz.underlying114 zv314)<|Zv (ydw 1 (m:=20) U U (Enc.len ..)) ?_
  refine Zkv (c255 bw bh bi r m d out bs hk h0 h4 (by omega)) [2] U U U U<|Zq<|Znl<|Zee<|Zre .n hS [0] 2 U U U U
 ·rw [hk]
  refine Zv (ylk 0 U U U Tryz.underlying315 Tryz.underlying114 zv314)<|Zv (ydw 1 (m:=20) U U (Enc.len ..)) ?_
  refine Zkv (c256 bw bh bi r m d out bs hk hl) [2] U U U U<|Zq<|Znl<|Zee<|Zre .n hS [0] 2 U U U U
 ·rw [hk]
  refine Zv (ylk 0 U U U Tryz.underlying315 Tryz.underlying114 zv314)<|Zv (ydw 1 (m:=20) U U (Enc.len ..)) ?_
  refine Zkv (c257 bw bh bi r m d out bs hk (by omega)) [2] U U U U<|Zq<|Znl<|Zee<|Zre .n hS [0] 2 U U U U
def reqF (bs:List Int) (d:Ent) (m:Msg):Ent × List Int × List Msg:=if d.busy then (d.setQ (d.q++[m]),bs,[]) else beginF bs d m
theorem c192 (bw bh bi r:Nat) (m:Msg) (d:Ent) (out:List Msg) (bs:List Int) (hk:m.kind=1∨m.kind=2∨m.kind=3) (h0:0≤m.src) (h4:m.src<4) (hl:out.length≤900000) (hq:d.q.length≤1000000):Sp Tryz.prog 192 [pt bw,.agg (msgE.arr m)] [.hp (workC bw bh bi r m.line d out bs)] fun K=>K (.returned (.tuple #[])) [.hp (workC bw bh bi r m.line (reqF bs d m).1 (out++(reqF bs d m).2.2) (reqF bs d m).2.1)]:=by
 refine Zen Tryz.func192 U U U fun e X Φ hS=>Zoc 0 work_op U<|fun ok be A cap Aq cq=>?_
 refine Zsr<|Ze (ebxE U) fun b3=>Zw<|Znqs<|Za 4 [1,1] U U ?_
 refine Za 3 [5,2] U U<|Zn<|Zib U (fun h10=>?_) (fun h10=>?_)
 refine Zsq ?_
 rotate_left
 refine Zkn<|Zrg<|Zm U<|Zv (ydw 0 (m:=20) U U (Enc.len ..)) ?_
 rotate_left
 ·have e1:reqF bs d m=(d.setQ (d.q++[m]),bs,[]):=if_pos h10
  rw [e1] at hS
  refine Zhf 14 [4] U U<|Zht 0 U (ym U)<|Zht 1 U (yn U)<|Zht 2 U (yf 1 U)<|Zht 3 U (yd 1 U U U)<|Zht 4 U (ym U)<|Zht 5 U (yn U)<|Zht 6 U (yf 1 U)<|Zht 7 U (yd 1 U U U)<|Zht 8 U (yn U) ?_
  refine Zht 9 U (yf 10 U)<|Zht 10 U (yd 2 U U U)<|Zht 11 U (ydw 0 (m:=20) U U (Enc.len ..))<|ZH1 12<|Zoe U (eb1 elMsg (by decide) U) fun A23=>Zwh 2 U ?_
  have hm:d.q.length+[m].length≤maxLen:=ml_le (by show d.q.length+1≤_;omega)
  refine ZH1 13<|Zoe U (eap' 1 0 elMsg U U U own.rd U U U (fun _ _=>U) (by simp;omega) hm)<|fun A' cap'=>Zwh 2 U<|ZHn<|Ztl U<|Ztv (yn U)<|Ztv (yf 10 U)<|Zte (es 4 U U U U U)<|Ztw<|Ztn<|Zxr<|Zr1 ?_
  refine Zfx [3,3,3,1,2,2] (work_fold (d:=d.setQ (d.q++[m])) (out:=out) ok) U ?_
  rw [← List.append_nil out]
  refine Zre .n hS [0] 2 U U U U
 ·have e1:reqF bs d m=beginF bs d m:=if_neg (by rw [h10];decide)
  rw [e1] at hS
  refine Zfl [1,1,1,1,1,1] (work_fold (d:=d) (out:=out) ok) U ?_
  refine Zk (c226 bw bh bi r m d out bs hk h0 h4 hl) [0] U U<|Zq<|Znl<|Zee<|Zre .n hS [0] 1 U U U U
def backOk (d:Ent) (m:Msg):Bool:=d.busy && decide (0<d.waits) && decide (d.o=m.src)
def backH (bs:List Int) (d:Ent) (m:Msg):Ent × List Int × List Msg:=
 let bs':=setLn bs m.line m.bs
 if d.kind=2 then (writeD (d.setW 0),bs',[sendM m 10 d.asks (lineB bs' m.line)])
 else ((((ownF (d.setW 0) (-1)).setS ((sh0.set m.src true).set d.asks true))).setT true,bs',[sendM m 8 d.asks (lineB bs' m.line)])
theorem c193 (bw bh bi r:Nat) (m:Msg) (d:Ent) (out:List Msg) (bs:List Int) (h0:0≤m.src) (h4:m.src<4) (ha:0≤d.asks∧d.asks<4) (hl:out.length≤900000):Sp Tryz.prog 193 [pt bw,.agg (msgE.arr m)] [.hp (workC bw bh bi r m.line d out bs)] fun K=>
  (backOk d m=true→K (.returned (.tuple #[])) [.hp (workC bw bh bi r m.line (backH bs d m).1 (out++(backH bs d m).2.2) (backH bs d m).2.1)])∧(backOk d m=false→K (.panicked (stopH 220)) [.hp (workC bw bh bi r m.line d out bs)]):=by
 refine Zen Tryz.func193 U U U fun e X Φ hS=>Zoc 0 work_op U<|fun ok be A cap Aq cq=>?_
 refine Zsr<|Ze (ebxE U) fun b3=>Zw<|Znq<|Zhd [] U U<|Zht 0 U (ym U)<|Zht 1 U (yn U)<|Zht 2 U (yf 1 U)<|Zht 3 U (yd 1 U U U) ?_
 refine Zht 4 U (yn U)<|Zht 5 U (yf 5 U)<|Zht 6 U (yd 2 U U U)<|Zht 7 U (ym U)<|Zhgb 8 U U U (fun h11=>?_) (fun h11=>?_)
 refine Zhg 8 U U (lkn U h11) (ym U)<|Zhg 9 U U (lkn U h11) (yn U)<|Zhg 10 U U (lkn U h11) (yf 1 U)<|Zhg 11 U U (lkn U h11) (yd 1 U U U)<|Zhg 12 U U (lkn U h11) (yn U)<|Zhg 13 U U (lkn U h11) (yf 8 U)<|Zhg 14 U U (lkn U h11) (yd 2 U U U)<|Zhg 15 U U (lkn U h11) (ygt U U)<|Zht 16 U (ypt' U h11 U)<|Zht 17 U (ym U) ?_
 refine Zhgs 18 U U U (fun h21=>?_) (fun h21=>?_)
 refine Zhg 18 U U (lkn U (dT h21)) (ym U)<|Zhg 19 U U (lkn U (dT h21)) (yn U)<|Zhg 20 U U (lkn U (dT h21)) (yf 1 U)<|Zhg 21 U U (lkn U (dT h21)) (yd 1 U U U)<|Zhg 22 U U (lkn U (dT h21)) (yn U)<|Zhg 23 U U (lkn U (dT h21)) (yf 0 U)<|Zhg 24 U U (lkn U (dT h21)) (yd 2 U U U)<|Zhg 25 U U (lkn U (dT h21)) (yf 1 U)<|Zhg 26 U U (lkn U (dT h21)) (yd 0 U U U)<|Zhg 27 U U (lkn U (dT h21)) (yeq U U) ?_
 refine Zht 28 U (ypt' U (dT h21) U)<|ZH1 29<|Zok (c227 ..) [] U U U<|⟨?_,?_⟩
 refine fun a=>Zqh 0 rfl <| Zhn (by kernel_rfl) <| Znx <| Zsq ?_
 rotate_left
 refine fun a=>Zqhp <| Zp1 ?_
 rotate_left
 refine Zhu 18 U U (lkn U (dF h21)) U<|Zhu 19 U U (lkn U (dF h21)) U<|Zhu 20 U U (lkn U (dF h21)) U<|Zhu 21 U U (lkn U (dF h21)) U<|Zhu 22 U U (lkn U (dF h21)) U<|Zhu 23 U U (lkn U (dF h21)) U<|Zhu 24 U U (lkn U (dF h21)) U<|Zhu 25 U U (lkn U (dF h21)) U<|Zhu 26 U U (lkn U (dF h21)) U<|Zhu 27 U U (lkn U (dF h21)) U ?_
 refine Zht 28 U (ypf' U (dF h21) U)<|ZH1 29<|Zok (c227f (h:=U) ..) [] U U U<|Zqhp<|Zp1 ?_
 rotate_left
 refine Zhu 8 U U (lkn U h11) U<|Zhu 9 U U (lkn U h11) U<|Zhu 10 U U (lkn U h11) U<|Zhu 11 U U (lkn U h11) U<|Zhu 12 U U (lkn U h11) U<|Zhu 13 U U (lkn U h11) U<|Zhu 14 U U (lkn U h11) U<|Zhu 15 U U (lkn U h11) U<|Zht 16 U (ypf' U h11 U)<|Zht 17 U (ym U) ?_
 refine Zhu 18 U U U U<|Zhu 19 U U U U<|Zhu 20 U U U U<|Zhu 21 U U U U<|Zhu 22 U U U U<|Zhu 23 U U U U<|Zhu 24 U U U U<|Zhu 25 U U U U<|Zhu 26 U U U U<|Zhu 27 U U U U ?_
 refine Zht 28 U (ypf U U)<|ZH1 29<|Zok (c227f (h:=U) ..) [] U U U<|Zqhp<|Zp1 ?_
 rotate_left
 ·have hb:backOk d m=true:=by simp only [backOk,h11,h21,a,decide_true,Bool.and_true]
  have hS:=hS.1 hb
  obtain ⟨i,hi⟩:=Int.eq_ofNat_of_zero_le h0
  obtain ⟨j,hj⟩:=Int.eq_ofNat_of_zero_le ha.1
  have ok':=ok.set m.line rfl m.bs
  refine Zhd [6] U U<|Zht 0 U (ym U)<|Zht 1 U (yn U)<|Zht 2 U (yf 2 U)<|Zht 3 U (yd 1 U U U)<|Zht 4 U (yn U)<|Zht 5 U (yf 0 U)<|Zht 6 U (yd 5 U U U)<|Zht 7 U (ym U)<|Zht 8 U (yn U) ?_
  refine Zht 9 U (yf 3 U)<|Zht 10 U (yd 1 U U U)<|Zht 11 U (yf 4 U)<|Zht 12 U (yda 0 (m:=16) U U (msg_bs' _) (Enc.len ..)) ?_
  refine ZH1 13<|Zok (c56' bi m.line bs m.bs ok) [0] U U U<|Zqh 1 U<|ZHn<|Zxs<|Za 5 [1,2] U U ?_
  refine Zv (yf 8 U)<|Ze (es 3 U U U U U)<|Zw0<|Znqs<|Za 4 [1,2] U U ?_
  refine Za 4 [7,3] U U<|Zn<|Zif U (fun h61=>?_) (fun h61=>?_)
  refine Zsr<|Zm U ?_
  rotate_left
  refine Zks<|Zm U ?_
  rotate_left
  ·have e1:backH bs d m=(writeD (d.setW 0),setLn bs m.line m.bs,[sendM m 10 d.asks (lineB (setLn bs m.line m.bs) m.line)]):=if_pos h61
   rw [e1] at hS
   refine Zfl [2,2,2,2,2,0] (work_fold (d:=d.setW 0) (out:=out) ok') U ?_
   refine Zk (c228 bw bh bi r m.line m.hn (d.setW 0) out (setLn bs m.line m.bs) (by omega)) [0] U U<|Zq<|Znr<|Zr1<|Zre .n hS [0] 1 U U U U
  ·have e1:backH bs d m=((((ownF (d.setW 0) (-1)).setS ((sh0.set m.src true).set d.asks true))).setT true,setLn bs m.line m.bs,[sendM m 8 d.asks (lineB (setLn bs m.line m.bs) m.line)]):=if_neg h61
   rw [e1] at hS
   refine Zfl [2,2,2,2,2,0] (work_fold (d:=d.setW 0) (out:=out) ok') U<|Zk (c229 ..) [0] U U<|Zq<|Znq ?_
   refine Zoc 0 work_op U<|fun _ be A cap Aq cq=>?_
   refine Zhd [1] U U<|Zht 0 U (ym U)<|Zht 1 U (yn U)<|Zht 2 U (yf 1 U)<|Zht 3 U (yd 0 U U U)<|Zht 4 U (yf 1 U)<|Zht 5 U (yd 5 U U U)<|Zht 6 U (ym U)<|Zht 7 U (yn U)<|Zht 8 U (yf 1 U) ?_
   refine Zht 9 U (yd 0 U U U)<|Zht 10 U (ym U)<|Zht 11 U (yn U)<|Zht 12 U (yf 1 U)<|Zht 13 U (yd 0 U U U)<|Zht 14 U (yn U)<|Zht 15 U (yf 6 U)<|Zht 17 U (yn U)<|Zht 18 U (yf 1 U)<|Zht 21 U (yn U) ?_
   refine Zht 22 U (yf 1 U)<|ZH1 16<|Zov U (yd 0 U U U) ?_
   refine Zht 19 U (yai (i:=i) Tryz.underlying163 U (congrArg (fun x=>some (Value.int .i64 x)) hi) (by omega)) ?_
   refine ZH1 20<|Zoe U (es 0 U U U (put_sh _ _ _ (i:=i) (by omega)) U)<|Zwh0 1 U ?_
   refine Zht 23 U (yai (i:=j) Tryz.underlying163 U (congrArg (fun x=>some (Value.int .i64 x)) hj) (by omega)) ?_
   refine ZH1 24<|Zoe U (es 0 U U U (put_sh _ _ _ (i:=j) (by omega)) U)<|Zwh0 1 U<|ZHn<|Zxs<|Za 6 [1,1] U U ?_
   refine Za 2 [6,0] U U ?_
   rw [← hi,← hj]
   refine Zfl [1,0,0,0,0,0] (work_fold (d:=(ownF (d.setW 0) (-1)).setS ((sh0.set m.src true).set d.asks true)) (out:=out) ok') U ?_
   refine Zol 0 work_op U<|fun _ be A cap Aq cq=>?_
   refine Zfl [0,0,0,0,0,0] (work_fold (d:=(ownF (d.setW 0) (-1)).setS ((sh0.set m.src true).set d.asks true)) (out:=out) ok') U ?_
   refine Zk (c230 bw bh bi r m.line 8 d.asks m.hn true ((ownF (d.setW 0) (-1)).setS ((sh0.set m.src true).set d.asks true)) out (setLn bs m.line m.bs) (by omega)) [0] U U<|Zq<|Zn<|Zrg<|Za 3 [1] U U ?_
   refine Zol 0 work_op U<|fun _ be A cap Aq cq=>Zv (yd 0 U U U)<|Za 2 [9] U U<|Ze (es 1 U U U U U)<|Zw0<|Znl<|Zee ?_
   refine Zfx [0,0,0,0,0,0] (work_fold (d:=((ownF (d.setW 0) (-1)).setS ((sh0.set m.src true).set d.asks true)).setT true) (out:=out++[sendM m 8 d.asks (lineB (setLn bs m.line m.bs) m.line)]) ok') U<|Zre .n hS [0] 1 U U U U
 ·refine Zfx [1,1,1,1,1,1] (work_fold (d:=d) (out:=out) ok) U ?_
  refine Zpe (hS.2 (by simp only [backOk,h11,h21,a,decide_true,Bool.and_false])) [0] 1 U U
 ·refine Zfx [1,1,1,1,1,1] (work_fold (d:=d) (out:=out) ok) U ?_
  refine Zpe (hS.2 (by simp [backOk,h11,h21])) [0] 1 U U
 ·refine Zfx [1,1,1,1,1,1] (work_fold (d:=d) (out:=out) ok) U ?_
  refine Zpe (hS.2 (by simp [backOk,h11])) [0] 1 U U
def ackOk (d:Ent) (m:Msg):Bool:=d.busy && decide (0<d.waits) && decide (d.o<0) && d.sh.get m.src && decide (m.src≠d.asks)
def ackH (bs:List Int) (d:Ent) (m:Msg):Ent × List Int × List Msg:=
 let e:=(d.setS (d.sh.set m.src false)).setW (d.waits-1)
 if d.waits=1 then (writeD e,bs,[sendM m 10 d.asks (lineB bs m.line)]) else (e,bs,[])
theorem c194 (bw bh bi r:Nat) (m:Msg) (d:Ent) (out:List Msg) (bs:List Int) (h0:0≤m.src) (h4:m.src<4) (hw:d.waits≤4) (hl:out.length≤900000):Sp Tryz.prog 194 [pt bw,.agg (msgE.arr m)] [.hp (workC bw bh bi r m.line d out bs)] fun K=>
  (ackOk d m=true→K (.returned (.tuple #[])) [.hp (workC bw bh bi r m.line (ackH bs d m).1 (out++(ackH bs d m).2.2) (ackH bs d m).2.1)])∧(ackOk d m=false→K (.panicked (stopH 220)) [.hp (workC bw bh bi r m.line d out bs)]):=by
 obtain ⟨i,hi⟩:=Int.eq_ofNat_of_zero_le h0
 have hg:d.sh.get m.src=d.sh.get (i:Int):=by rw [hi]
 refine Zen Tryz.func194 U U U fun e X Φ hS=>Zoc 0 work_op U<|fun ok be A cap Aq cq=>?_
 refine Zsr<|Ze (ebxE U) fun b3=>Zw<|Znq<|Zhd [] U U<|Zht 0 U (ym U)<|Zht 1 U (yn U)<|Zht 2 U (yf 1 U)<|Zht 3 U (yd 1 U U U) ?_
 refine Zht 4 U (yn U)<|Zht 5 U (yf 5 U)<|Zht 6 U (yd 2 U U U)<|Zht 7 U (ym U)<|Zhgb 8 U U U (fun h11=>?_) (fun h11=>?_)
 refine Zhg 8 U U (lkn U h11) (ym U)<|Zhg 9 U U (lkn U h11) (yn U)<|Zhg 10 U U (lkn U h11) (yf 1 U)<|Zhg 11 U U (lkn U h11) (yd 1 U U U)<|Zhg 12 U U (lkn U h11) (yn U)<|Zhg 13 U U (lkn U h11) (yf 8 U)<|Zhg 14 U U (lkn U h11) (yd 2 U U U)<|Zhg 15 U U (lkn U h11) (ygt U U)<|Zht 16 U (ypt' U h11 U)<|Zht 17 U (ym U) ?_
 refine Zhgs 18 U U U (fun h21=>?_) (fun h21=>?_)
 refine Zhg 18 U U (lkn U (dT h21)) (ym U)<|Zhg 19 U U (lkn U (dT h21)) (yn U)<|Zhg 20 U U (lkn U (dT h21)) (yf 1 U)<|Zhg 21 U U (lkn U (dT h21)) (yd 1 U U U)<|Zhg 22 U U (lkn U (dT h21)) (yn U)<|Zhg 23 U U (lkn U (dT h21)) (yf 0 U)<|Zhg 24 U U (lkn U (dT h21)) (yd 2 U U U)<|Zhg 25 U U (lkn U (dT h21)) (ylt U U)<|Zht 26 U (ypt' U (dT h21) U)<|Zht 27 U (ym U) ?_
 refine Zhgs 28 U U U (fun h31=>?_) (fun h31=>?_)
 refine Zhg 28 U U (lkn U (dT h31)) (ym U)<|Zhg 29 U U (lkn U (dT h31)) (yn U)<|Zhg 30 U U (lkn U (dT h31)) (yf 1 U)<|Zhg 31 U U (lkn U (dT h31)) (yd 1 U U U)<|Zhg 32 U U (lkn U (dT h31)) (yf 1 U)<|Zhg 33 U U (lkn U (dT h31)) (yd 0 U U U)<|Zhg 34 U U (lkn U (dT h31)) (yn U)<|Zhg 35 U U (lkn U (dT h31)) (yf 1 U) ?_
 rotate_left
 refine Zhu 28 U U (lkn U (dF h31)) U<|Zhu 29 U U (lkn U (dF h31)) U<|Zhu 30 U U (lkn U (dF h31)) U<|Zhu 31 U U (lkn U (dF h31)) U<|Zhu 32 U U (lkn U (dF h31)) U<|Zhu 33 U U (lkn U (dF h31)) U<|Zhu 34 U U (lkn U (dF h31)) U<|Zhu 35 U U (lkn U (dF h31)) U<|Zhu 36 U U (lkn U (dF h31)) U<|Zhu 37 U U (lkn U (dF h31)) U ?_
 refine Zht 38 U (ypf' U (dF h31) U)<|Zht 39 U (ym U)<|Zhu 40 U U U U<|Zhu 41 U U U U<|Zhu 42 U U U U<|Zhu 43 U U U U<|Zhu 44 U U U U<|Zhu 45 U U U U<|Zhu 46 U U U U<|Zhu 47 U U U U ?_
 refine Zhu 48 U U U U<|Zhu 49 U U U U<|Zht 50 U (ypf U U)<|ZH1 51<|Zok (c227f (h:=U) ..) [] U U U<|Zqhp<|Zp1 ?_
 rotate_left
 refine Zhu 18 U U (lkn U (dF h21)) U<|Zhu 19 U U (lkn U (dF h21)) U<|Zhu 20 U U (lkn U (dF h21)) U<|Zhu 21 U U (lkn U (dF h21)) U<|Zhu 22 U U (lkn U (dF h21)) U<|Zhu 23 U U (lkn U (dF h21)) U<|Zhu 24 U U (lkn U (dF h21)) U<|Zhu 25 U U (lkn U (dF h21)) U<|Zht 26 U (ypf' U (dF h21) U)<|Zht 27 U (ym U) ?_
 refine Zhu 28 U U U U<|Zhu 29 U U U U<|Zhu 30 U U U U<|Zhu 31 U U U U<|Zhu 32 U U U U<|Zhu 33 U U U U<|Zhu 34 U U U U<|Zhu 35 U U U U<|Zhu 36 U U U U<|Zhu 37 U U U U ?_
 refine Zht 38 U (ypf U U)<|Zht 39 U (ym U)<|Zhu 40 U U U U<|Zhu 41 U U U U<|Zhu 42 U U U U<|Zhu 43 U U U U<|Zhu 44 U U U U<|Zhu 45 U U U U<|Zhu 46 U U U U<|Zhu 47 U U U U ?_
 refine Zhu 48 U U U U<|Zhu 49 U U U U<|Zht 50 U (ypf U U)<|ZH1 51<|Zok (c227f (h:=U) ..) [] U U U<|Zqhp<|Zp1 ?_
 rotate_left
 refine Zhu 8 U U (lkn U h11) U<|Zhu 9 U U (lkn U h11) U<|Zhu 10 U U (lkn U h11) U<|Zhu 11 U U (lkn U h11) U<|Zhu 12 U U (lkn U h11) U<|Zhu 13 U U (lkn U h11) U<|Zhu 14 U U (lkn U h11) U<|Zhu 15 U U (lkn U h11) U<|Zht 16 U (ypf' U h11 U)<|Zht 17 U (ym U) ?_
 refine Zhu 18 U U U U<|Zhu 19 U U U U<|Zhu 20 U U U U<|Zhu 21 U U U U<|Zhu 22 U U U U<|Zhu 23 U U U U<|Zhu 24 U U U U<|Zhu 25 U U U U<|Zht 26 U (ypf U U)<|Zht 27 U (ym U) ?_
 refine Zhu 28 U U U U<|Zhu 29 U U U U<|Zhu 30 U U U U<|Zhu 31 U U U U<|Zhu 32 U U U U<|Zhu 33 U U U U<|Zhu 34 U U U U<|Zhu 35 U U U U<|Zhu 36 U U U U<|Zhu 37 U U U U ?_
 refine Zht 38 U (ypf U U)<|Zht 39 U (ym U)<|Zhu 40 U U U U<|Zhu 41 U U U U<|Zhu 42 U U U U<|Zhu 43 U U U U<|Zhu 44 U U U U<|Zhu 45 U U U U<|Zhu 46 U U U U<|Zhu 47 U U U U ?_
 refine Zhu 48 U U U U<|Zhu 49 U U U U<|Zht 50 U (ypf U U)<|ZH1 51<|Zok (c227f (h:=U) ..) [] U U U<|Zqhp<|Zp1 ?_
 rotate_left
 ·refine Zhg 36 U U (lkn U (dT h31)) (yai (i:=i) Tryz.underlying163 U (congrArg (fun x=>some (Value.int .i64 x)) hi) (by omega)) ?_
  refine Zhg 37 U U (lkn U (dT h31)) (yd 2 U U (nth_sh d _ (i:=i) (by omega)))<|Zht 38 U (ypt' U (dT h31) U)<|Zht 39 U (ym U)<|Zhgb 40 U U U (fun h43=>?_) (fun h43=>?_)
  refine Zhg 40 U U (lkn U h43) (yf 1 U)<|Zhg 41 U U (lkn U h43) (yd 0 U U U)<|Zhg 42 U U (lkn U h43) (ym U)<|Zhg 43 U U (lkn U h43) (yn U)<|Zhg 44 U U (lkn U h43) (yf 1 U)<|Zhg 45 U U (lkn U h43) (yd 1 U U U)<|Zhg 46 U U (lkn U h43) (yn U)<|Zhg 47 U U (lkn U h43) (yf 6 U)<|Zhg 48 U U (lkn U h43) (yd 2 U U U)<|Zhg 49 U U (lkn U h43) (yne U U) ?_
  refine Zht 50 U (ypt' U h43 U)<|ZH1 51<|Zok (c227 ..) [] U U U<|⟨?_,?_⟩
  refine fun a=>Zqh 0 rfl <| Zhn (by kernel_rfl) <| Znx <| Zsq ?_
  rotate_left
  refine fun a=>Zqhp <| Zp1 ?_
  rotate_left
  refine Zhu 40 U U (lkn U h43) U<|Zhu 41 U U (lkn U h43) U<|Zhu 42 U U (lkn U h43) U<|Zhu 43 U U (lkn U h43) U<|Zhu 44 U U (lkn U h43) U<|Zhu 45 U U (lkn U h43) U<|Zhu 46 U U (lkn U h43) U<|Zhu 47 U U (lkn U h43) U<|Zhu 48 U U (lkn U h43) U<|Zhu 49 U U (lkn U h43) U ?_
  refine Zht 50 U (ypf' U h43 U)<|ZH1 51<|Zok (c227f (h:=U) ..) [] U U U<|Zqhp<|Zp1 ?_
  rotate_left
  ·have hb:ackOk d m=true:=by rw [ackOk,h11,dT h21,dT h31,hg,h43,a];rfl
   have hS:=hS.1 hb
   have ew:IntKind.i64.wrap ((d.setS (d.sh.set (i:Int) false)).waits-1)=d.waits-1:=i64w rfl (by omega)
   refine Zhd [2] U U<|Zht 0 U (ym U)<|Zht 1 U (yn U)<|Zht 2 U (yf 1 U)<|Zht 3 U (yd 1 U U U)<|Zht 4 U (yf 1 U)<|Zht 5 U (yd 0 U U U)<|Zht 6 U (yn U)<|Zht 7 U (yf 1 U) ?_
   refine Zht 8 U (yai (i:=i) Tryz.underlying163 U (congrArg (fun x=>some (Value.int .i64 x)) hi) (by omega)) ?_
   refine ZH1 9<|Zoe U (es 0 U U U (put_sh _ _ _ (i:=i) (by omega)) U)<|Zwh0 1 U<|ZHn<|Zxs<|Za 6 [1,2,8] U U ?_
   refine Zv (yd 0 U U U)<|Zv (ysub U U U)<|Za 2 [8] U U<|Ze (es 0 U U U U U)<|Zw0<|Zns<|Zb 2 U ?_
   refine Za 6 [1,2,8,0] U U<|Zn<|Zif U (fun h82=>?_) (fun h82=>?_)
   refine Zrg<|Zm U ?_
   rotate_left
   refine Zsk<|Zee ?_
   rotate_left
   ·rw [ew] at h82 ⊢
    rw [← hi]
    have e1:ackH bs d m=(writeD ((d.setS (d.sh.set m.src false)).setW (d.waits-1)),bs,[sendM m 10 d.asks (lineB bs m.line)]):=if_pos (by omega)
    rw [e1] at hS
    refine Zfl [2,0,1,1,1,1] (work_fold (d:=(d.setS (d.sh.set m.src false)).setW (d.waits-1)) (out:=out) ok) U ?_
    refine Zk (c228 bw bh bi r m.line m.hn ((d.setS (d.sh.set m.src false)).setW (d.waits-1)) out bs (by omega)) [0] U U<|Zq<|Znl<|Zee<|Zre .n hS [0] 1 U U U U
   ·rw [ew] at h82 ⊢
    rw [← hi]
    have e1:ackH bs d m=((d.setS (d.sh.set m.src false)).setW (d.waits-1),bs,[]):=if_neg (by omega)
    rw [e1] at hS
    refine Zfx [2,0,1,1,1,1] (work_fold (d:=(d.setS (d.sh.set m.src false)).setW (d.waits-1)) (out:=out) ok) U ?_
    rw [← List.append_nil out]
    refine Zre .n hS [0] 1 U U U U
  ·refine Zfx [1,1,1,1,1,1] (work_fold (d:=d) (out:=out) ok) U ?_
   refine Zpe (hS.2 (by rw [ackOk,a];simp)) [0] 1 U U
  ·refine Zfx [1,1,1,1,1,1] (work_fold (d:=d) (out:=out) ok) U ?_
   refine Zpe (hS.2 (by rw [ackOk,hg,h43];simp)) [0] 1 U U
 ·refine Zfx [1,1,1,1,1,1] (work_fold (d:=d) (out:=out) ok) U ?_
  refine Zpe (hS.2 (by rw [ackOk,dF h31];simp)) [0] 1 U U
 ·refine Zfx [1,1,1,1,1,1] (work_fold (d:=d) (out:=out) ok) U ?_
  refine Zpe (hS.2 (by rw [ackOk,dF h21];simp)) [0] 1 U U
 ·refine Zfx [1,1,1,1,1,1] (work_fold (d:=d) (out:=out) ok) U ?_
  refine Zpe (hS.2 (by rw [ackOk,h11];simp)) [0] 1 U U
section
variable {P:Program} {α:Type} [DecidableEq α] {E:Enc P α} {A:Option Addr} {cap:Nat} {l:List α}
theorem own_drop {k:Nat} (hk:k≤l.length):∀ h,Sep [.hp (own E A cap l)] h→own E (cutA A cap k E.n) (cap-k) (l.drop k) h:=fun h hs=>by
 obtain ⟨h',_,hle',_,_,⟨h1,h2,h3⟩,_⟩:=hs
 refine ⟨by rw [List.length_drop];omega,by omega,?_⟩
 rcases h3 with ⟨rfl,h3⟩ | ⟨g,o,cs,rfl,hg,ho,hr⟩
 ·refine .inl ⟨?_,by omega⟩
  unfold cutA;split <;> rfl
 ·right
  unfold cutA
  split
  ·rename_i hc
   have e:l.drop k=[]:=List.drop_eq_nil_of_le (by omega)
   refine ⟨g,o,cs,rfl,hle' _ _ hg,?_,by rw [e];simp⟩
   rw [hc,Nat.sub_self,Nat.zero_mul]
   have:=Nat.zero_le (cap*E.n)
   omega
  ·have hle:k*E.n≤cap*E.n:=Nat.mul_le_mul_right _ (by omega)
   refine ⟨g,o+k*E.n,cs,by simp [Addr.add_mid],hle' _ _ hg,by rw [Nat.sub_mul];omega,?_⟩
   have e:((l.take k).flatMap E.cells).length=k*E.n:=by rw [flat_len,List.length_take,Nat.min_eq_left hk]
   have e2:l.flatMap E.cells=(l.take k).flatMap E.cells++(l.drop k).flatMap E.cells:=by rw [← List.flatMap_append,List.take_append_drop]
   have e3:(l.flatMap E.cells).drop (k*E.n)=(l.drop k).flatMap E.cells:=by rw [e2,← e,List.drop_left]
   rw [← e3,← hr,List.drop_take,List.drop_drop,List.length_drop,Nat.sub_mul]
end
theorem beg_q (bs:List Int) (d:Ent) (m:Msg):(beginF bs d m).1.q=d.q:=by
 unfold beginF
 dsimp only
 repeat' split
 all_goals rfl
theorem beg_len (bs:List Int) (d:Ent) (m:Msg):(beginF bs d m).2.2.length≤4:=by
 have h4:=oth_len (leaveF d m.src).sh m.src 4
 unfold beginF
 dsimp only
 repeat' split
 all_goals first
  | exact Nat.le_trans (Nat.le_refl 1) (by decide)
  | (simp only [List.length_map];exact h4)
theorem c226' (bw bh bi r:Nat) (n:Int) (m:Msg) (hn:m.line=n) (d:Ent) (out:List Msg) (bs:List Int) (hk:m.kind=1∨m.kind=2∨m.kind=3) (h0:0≤m.src) (h4:m.src<4) (hl:out.length≤900000):Sp Tryz.prog 226 [pt bw,.agg (msgE.arr m)] [.hp (workC bw bh bi r n d out bs)] fun K=>K (.returned (.tuple #[])) [.hp (workC bw bh bi r n (beginF bs d m).1 (out++(beginF bs d m).2.2) (beginF bs d m).2.1)]:=by
 subst hn
 exact c226 bw bh bi r m d out bs hk h0 h4 hl
def Ent.fre (d:Ent):Ent:=⟨d.o,d.sh,false,0,0,d.waits,false,d.q⟩
def doneOk (d:Ent) (m:Msg):Bool:=d.busy && d.told && decide (d.asks=m.src)
def drainF:List Msg→List Int→Ent→Ent × List Int × List Msg
 | [],bs,d=>(d.setQ [],bs,[])
 | m::r,bs,d=>if d.busy then (d.setQ (m::r),bs,[])
  else
   let x:=beginF bs (d.setQ r) m
   let y:=drainF r x.2.1 x.1
   (y.1,y.2.1,x.2.2++y.2.2)
theorem drain_busy {bs:List Int} {d:Ent} (h:d.busy=true):drainF d.q bs d=(d,bs,[]):=by
 obtain ⟨o,sh,b,a,k,w,t,q⟩:=d
 cases q with
 | nil=>rfl
 | cons m r=>exact if_pos h
theorem drain_nil {bs:List Int} {d:Ent} (h:d.q=[]):drainF d.q bs d=(d,bs,[]):=by
 obtain ⟨o,sh,b,a,k,w,t,q⟩:=d
 have h:q=[]:=h
 subst h
 rfl
theorem drain_step {bs:List Int} {d:Ent} {m:Msg} {r:List Msg} (h:d.busy=false) (hq:d.q=m::r):drainF d.q bs d=((drainF r (beginF bs (d.setQ r) m).2.1 (beginF bs (d.setQ r) m).1).1,(drainF r (beginF bs (d.setQ r) m).2.1 (beginF bs (d.setQ r) m).1).2.1,(beginF bs (d.setQ r) m).2.2++(drainF r (beginF bs (d.setQ r) m).2.1 (beginF bs (d.setQ r) m).1).2.2):=by
 rw [hq]
 exact if_neg (by rw [h];decide)
structure DrI (n:Int) (d:Ent) (bs:List Int) (p:Ent × List Int × List Msg):Prop where
 e1:(drainF d.q bs d.fre).1=(drainF p.1.q p.2.1 p.1).1
 e2:(drainF d.q bs d.fre).2.1=(drainF p.1.q p.2.1 p.1).2.1
 e3:(drainF d.q bs d.fre).2.2=p.2.2++(drainF p.1.q p.2.1 p.1).2.2
 q:∀ x∈p.1.q,(x.kind=1∨x.kind=2∨x.kind=3)∧0≤x.src∧x.src<4∧x.line=n
 l:p.2.2.length+4*p.1.q.length≤4*d.q.length
theorem DrI.step {n:Int} {d:Ent} {bs:List Int} {d':Ent} {bs':List Int} {o':List Msg} {m:Msg} {r:List Msg} (h:DrI n d bs (d',bs',o')) (hb:d'.busy=false) (hq:d'.q=m::r):DrI n d bs ((beginF bs' (d'.setQ r) m).1,(beginF bs' (d'.setQ r) m).2.1,o'++(beginF bs' (d'.setQ r) m).2.2):=by
 have hs:=drain_step (bs:=bs') hb hq
 have hbq:(beginF bs' (d'.setQ r) m).1.q=r:=beg_q ..
 have hbl:=beg_len bs' (d'.setQ r) m
 obtain ⟨e1,e2,e3,q,l⟩:=h
 have q':∀ x∈d'.q,_:=q
 have l':o'.length+4*d'.q.length≤4*d.q.length:=l
 rw [hq] at q' l'
 refine ⟨?_,?_,?_,?_,?_⟩
 ·rw [e1];show (drainF d'.q bs' d').1=(drainF (beginF bs' (d'.setQ r) m).1.q (beginF bs' (d'.setQ r) m).2.1 (beginF bs' (d'.setQ r) m).1).1;rw [hs,hbq]
 ·rw [e2];show (drainF d'.q bs' d').2.1=(drainF (beginF bs' (d'.setQ r) m).1.q (beginF bs' (d'.setQ r) m).2.1 (beginF bs' (d'.setQ r) m).1).2.1;rw [hs,hbq]
 ·rw [e3];show o'++(drainF d'.q bs' d').2.2=(o'++(beginF bs' (d'.setQ r) m).2.2)++_;rw [hs,List.append_assoc];rw [hbq]
 ·show ∀ x∈(beginF bs' (d'.setQ r) m).1.q,_
  rw [hbq]
  exact fun x hx=>q' x (List.mem_cons_of_mem _ hx)
 ·show (o'++(beginF bs' (d'.setQ r) m).2.2).length+4*(beginF bs' (d'.setQ r) m).1.q.length≤_
  rw [hbq,List.length_append]
  simp only [List.length_cons] at l'
  omega
theorem c195 (bw bh bi r:Nat) (n:Int) (m:Msg) (d:Ent) (out:List Msg) (bs:List Int) (hq:∀ x∈d.q,(x.kind=1∨x.kind=2∨x.kind=3)∧0≤x.src∧x.src<4∧x.line=n) (hl:out.length+4*d.q.length≤800000):Sp Tryz.prog 195 [pt bw,.agg (msgE.arr m)] [.hp (workC bw bh bi r n d out bs)] fun K=>
  (doneOk d m=true→K (.returned (.tuple #[])) [.hp (workC bw bh bi r n (drainF d.q bs d.fre).1 (out++(drainF d.q bs d.fre).2.2) (drainF d.q bs d.fre).2.1)])∧(doneOk d m=false→K (.panicked (stopH 220)) [.hp (workC bw bh bi r n d out bs)]):=by
 refine Zen Tryz.func195 U U U fun e X Φ hS=>Zoc 0 work_op U<|fun ok be A cap Aq cq=>?_
 refine Zsr<|Ze (ebxE U) fun b3=>Zw<|Znq<|Zhd [] U U<|Zht 0 U (ym U)<|Zht 1 U (yn U)<|Zht 2 U (yf 1 U)<|Zht 3 U (yd 1 U U U) ?_
 refine Zht 4 U (yn U)<|Zht 5 U (yf 5 U)<|Zht 6 U (yd 2 U U U)<|Zht 7 U (ym U)<|Zhgb 8 U U U (fun h12=>?_) (fun h12=>?_)
 refine Zhg 8 U U (lkn U h12) (ym U)<|Zhg 9 U U (lkn U h12) (yn U)<|Zhg 10 U U (lkn U h12) (yf 1 U)<|Zhg 11 U U (lkn U h12) (yd 1 U U U)<|Zhg 12 U U (lkn U h12) (yn U)<|Zhg 13 U U (lkn U h12) (yf 9 U)<|Zhg 14 U U (lkn U h12) (yd 2 U U U)<|Zht 15 U (ypt' U h12 U)<|Zht 16 U (ym U)<|Zhgb 17 U U U (fun h21=>?_) (fun h21=>?_)
 refine Zhg 17 U U (lkn U h21) (ym U)<|Zhg 18 U U (lkn U h21) (yn U)<|Zhg 19 U U (lkn U h21) (yf 1 U)<|Zhg 20 U U (lkn U h21) (yd 1 U U U)<|Zhg 21 U U (lkn U h21) (yn U)<|Zhg 22 U U (lkn U h21) (yf 6 U)<|Zhg 23 U U (lkn U h21) (yd 2 U U U)<|Zhg 24 U U (lkn U h21) (yf 1 U)<|Zhg 25 U U (lkn U h21) (yd 0 U U U)<|Zhg 26 U U (lkn U h21) (yeq U U) ?_
 refine Zht 27 U (ypt' U h21 U)<|ZH1 28<|Zok (c227 ..) [] U U U<|⟨?_,?_⟩
 refine fun a=>Zqh 0 rfl <| Zhn (by kernel_rfl) <| Znx <| Zsq ?_
 rotate_left
 refine fun a=>Zqhp <| Zp1 ?_
 rotate_left
 refine Zhu 17 U U (lkn U h21) U<|Zhu 18 U U (lkn U h21) U<|Zhu 19 U U (lkn U h21) U<|Zhu 20 U U (lkn U h21) U<|Zhu 21 U U (lkn U h21) U<|Zhu 22 U U (lkn U h21) U<|Zhu 23 U U (lkn U h21) U<|Zhu 24 U U (lkn U h21) U<|Zhu 25 U U (lkn U h21) U<|Zhu 26 U U (lkn U h21) U ?_
 refine Zht 27 U (ypf' U h21 U)<|ZH1 28<|Zok (c227f (h:=U) ..) [] U U U<|Zqhp<|Zp1 ?_
 rotate_left
 refine Zhu 8 U U (lkn U h12) U<|Zhu 9 U U (lkn U h12) U<|Zhu 10 U U (lkn U h12) U<|Zhu 11 U U (lkn U h12) U<|Zhu 12 U U (lkn U h12) U<|Zhu 13 U U (lkn U h12) U<|Zhu 14 U U (lkn U h12) U<|Zht 15 U (ypf' U h12 U)<|Zht 16 U (ym U)<|Zhu 17 U U U U ?_
 refine Zhu 18 U U U U<|Zhu 19 U U U U<|Zhu 20 U U U U<|Zhu 21 U U U U<|Zhu 22 U U U U<|Zhu 23 U U U U<|Zhu 24 U U U U<|Zhu 25 U U U U<|Zhu 26 U U U U<|Zht 27 U (ypf U U) ?_
 refine ZH1 28<|Zok (c227f (h:=U) ..) [] U U U<|Zqhp<|Zp1 ?_
 rotate_left
 ·refine Zhd [2] U U<|Zht 0 U (ym U)<|Zht 1 U (yn U)<|Zht 2 U (yf 1 U)<|Zht 3 U (yd 1 U U U)<|Zht 4 U (ym U)<|Zht 5 U (yn U)<|Zht 6 U (yf 1 U)<|Zht 7 U (yd 1 U U U)<|Zht 8 U (ym U) ?_
  refine Zht 9 U (yn U)<|Zht 10 U (yf 1 U)<|Zht 11 U (yd 1 U U U)<|Zht 12 U (ym U)<|Zht 13 U (yn U)<|Zht 14 U (yf 1 U)<|Zht 15 U (yd 1 U U U)<|Zht 16 U (yn U)<|Zht 17 U (yf 5 U)<|ZH1 18<|Zoe U (es 0 U U U U U)<|Zwh0 1 U ?_
  refine Zht 19 U (yn U)<|Zht 20 U (yf 6 U)<|ZH1 21<|Zoe U (es 0 U U U U U)<|Zwh0 1 U<|Zht 22 U (yn U)<|Zht 23 U (yf 7 U)<|ZH1 24<|Zoe U (es 0 U U U U U)<|Zwh0 1 U<|Zht 25 U (yn U)<|Zht 26 U (yf 9 U)<|ZH1 27<|Zoe U (es 0 U U U U U)<|Zwh0 1 U<|ZHn ?_
  refine Znx<|Zbl ?_
  have hb:doneOk d m=true:=by rw [doneOk,h12,h21,a];rfl
  have hS:=hS.1 hb
  refine Zfc [2,0,1,1,1,1] (work_fold (d:=d.fre) (out:=out) ok) U ?_
  rw [← List.append_nil out]
  refine Zlq (ι:={ p:Ent × List Int × List Msg // DrI n d bs p }) (fun p=>[(0,pt bw)]) (fun p=>[.hp (workC bw bh bi r n p.1.1 (out++p.1.2.2) p.1.2.1)]) (fun p=>p.1.1.q.length) ⟨(d.fre,bs,[]),U,U,U,hq,by show 0+_≤_;rw [Nat.zero_add];exact Nat.le_refl _⟩ ⟨U,trivial⟩ [0] U fun p=>Zoc 0 work_op U<|fun ok' be' A' cap' Aq' cq'=>?_
  obtain ⟨⟨⟨eo,es_,eb,ea,ek,ew,et,eq⟩,bs',o'⟩,hI⟩:=p
  cases eb with
  | true=>
   refine Zsq<|Zsr<|Za 8 [1,0,5,1] U U ?_
   refine Zb 10 U ?_
   refine Zv (ypf U U)<|Zn<|Zcf U<|Zex<|Zxt<|Zxt<|Zxx<|Zee ?_
   have hd:=drain_busy (bs:=bs') (d:=⟨eo,es_,true,ea,ek,ew,et,eq⟩) rfl
   refine Zfx [0,0,0,0,0,0] (work_fold (d:=⟨eo,es_,true,ea,ek,ew,et,eq⟩) (out:=out++o') ok') U ?_
   rw [hI.e1,hI.e2,hI.e3] at hS
   dsimp only at hS
   rw [hd,List.append_nil] at hS
   refine Zre .n hS [0] 1 U U U U
  | false=>
   cases eq with
   | nil=>
    refine Zsq<|Zsr<|Za 8 [1,0,5,1] U U ?_
    refine Za 5 [1,0] U U<|Zg U U ?_
    refine Za 3 [10,1] U U<|Zg U U<|Zv (sl_of ⟨_,Tryz.underlying112⟩ U)<|Zb 2 U ?_
    refine Zn<|Zcf U<|Zex<|Zxt<|Zxt<|Zxx<|Zee ?_
    have hd:=drain_nil (bs:=bs') (d:=⟨eo,es_,false,ea,ek,ew,et,[]⟩) rfl
    refine Zfx [0,0,0,0,0,0] (work_fold (d:=⟨eo,es_,false,ea,ek,ew,et,[]⟩) (out:=out++o') ok') U ?_
    rw [hI.e1,hI.e2,hI.e3] at hS
    dsimp only at hS
    rw [hd,List.append_nil] at hS
    refine Zre .n hS [0] 1 U U U U
   | cons m' q'=>
    have hx:(m'::q')[0]? = some m':=rfl
    have hI':=hI.step rfl rfl
    have hl':o'.length+4*(m'::q').length≤4*d.q.length:=hI.l
    have hlo:(out++o').length≤900000:=by rw [List.length_append];omega
    obtain ⟨hk',h0',h4',hln'⟩:=hI.q m' (.head _)
    have hd1:1≤(m'::q').length:=Nat.succ_le_succ (Nat.zero_le q'.length)
    refine Zsq<|Zsr<|Za 8 [1,0,5,1] U U ?_
    refine Za 5 [1,0] U U<|Zg U U ?_
    refine Za 3 [10,1] U U<|Zg U U<|Zv (sl_of ⟨_,Tryz.underlying112⟩ U)<|Zb 2 U ?_
    refine Zn<|Zif U (fun h76=>?_) (fun h76=>?_)
    refine Zkn<|Zbl<|Zsr<|Za 6 [1,0,10] U U ?_
    refine Zv (yd 1 U U U)<|Zv (yea (j:=0) 3 own.rd U U U (by first | assumption | omega) U Tryz.underlying112 U)<|Zv (yel 3 own.rd U (by assumption) U U U)<|Ze (eal z117) fun b4=>Zw<|Ze (esw 0 (m:=20) U U U U U (Enc.len ..) (Enc.allL ..))<|Zw0<|Znq ?_
    rotate_left
    refine Zex<|Zxt<|Zxt<|Zxx<|Zee ?_
    rotate_left
    ·refine Zhd [2] U U<|Zht 0 U (ym U)<|Zht 1 U (yn U)<|Zht 2 U (yf 1 U)<|Zht 3 U (yd 1 U U U)<|Zht 4 U (ym U)<|Zht 5 U (yn U)<|Zht 6 U (yf 1 U)<|Zht 7 U (yd 1 U U U)<|Zht 8 U (yn U) ?_
     refine Zht 9 U (yf 10 U)<|ZH1 10<|Zov U (yd 0 U U U) ?_
     refine Zht 11 U (ysld (j:=1) 20 Tryz.underlying112 U U hd1)<|Zht 12 U (yn U)<|Zht 13 U (yf 10 U)<|ZH1 14<|Zoe U (es 0 U U U U U)<|Zwh0 1 U<|ZHn<|Znx<|Zrg<|Zm U<|Zv (ydw 1 (m:=20) U U (Enc.len ..)) ?_
     refine Zfl (p:=own msgE (cutA Aq' cq' 1 20) (cq'-1) q') [4] (own_drop (k:=1) (l:=m'::q') hd1) U ?_
     refine Zfl [3,1,2,0,1,1] (work_fold (d:=⟨eo,es_,false,ea,ek,ew,et,q'⟩) (out:=out++o') (bs:=bs') ok') U ?_
     refine Zk (c226' bw bh bi r n m' hln' ⟨eo,es_,false,ea,ek,ew,et,q'⟩ (out++o') bs' hk' h0' h4' hlo) [0] U U<|Zq<|Znl<|Zxn ?_
     rw [List.append_assoc]
     have hm:(beginF bs' ((⟨eo,es_,false,ea,ek,ew,et,m'::q'⟩:Ent).setQ q') m').1.q.length<(m'::q').length:=by rw [beg_q];exact Nat.lt_succ_self _
     refine Zlr ⟨(_,_,_),hI'⟩ hm ⟨U,trivial⟩ [0] 1 U U
    ·exact absurd (show (0:Int)<(((m'::q').length:Nat):Int) by omega) h76
 ·refine Zfx [1,1,1,1,1,1] (work_fold (d:=d) (out:=out) ok) U ?_
  refine Zpe (hS.2 (by rw [doneOk,a];simp)) [0] 1 U U
 ·refine Zfx [1,1,1,1,1,1] (work_fold (d:=d) (out:=out) ok) U ?_
  refine Zpe (hS.2 (by rw [doneOk,h21];simp)) [0] 1 U U
 ·refine Zfx [1,1,1,1,1,1] (work_fold (d:=d) (out:=out) ok) U ?_
  refine Zpe (hS.2 (by rw [doneOk,h12];simp)) [0] 1 U U
def putH (h:HD) (m:Msg) (x:Ent × List Int × List Msg):HD × List Msg × Int:=(⟨x.2.1,h.E.set m.line.toNat x.1⟩,x.2.2,0)
def takeH (h:HD) (m:Msg):HD × List Msg × Int:=
 if chk m≠0∨m.dst≠4 then (h,[],2)
 else if (h.E.length:Int)≤m.line then (h,[],4)
 else if m.kind=11 then (if backOk (entOf h.E m.line.toNat) m=true then putH h m (backH h.bs (entOf h.E m.line.toNat) m) else (h,[],220))
 else if m.kind=12 then (if ackOk (entOf h.E m.line.toNat) m=true then putH h m (ackH h.bs (entOf h.E m.line.toNat) m) else (h,[],220))
 else if m.kind=13 then (if doneOk (entOf h.E m.line.toNat) m=true then putH h m (drainF (entOf h.E m.line.toNat).q h.bs (entOf h.E m.line.toNat).fre) else (h,[],220))
 else putH h m (reqF h.bs (entOf h.E m.line.toNat) m)
section
variable {k:Nat} {n:Int} {d:Ent} {bs:List Int} {m:Msg}
theorem EW.leave (h:EW k n d) (r:Int):EW k n (leaveF d r):=⟨h.a,h.w,h.q,h.l⟩
theorem EW.own (h:EW k n d) (r:Int):EW k n (ownF d r):=⟨h.a,h.w,h.q,h.l⟩
theorem EW.busy (h:EW k n d) (hm:RqOk n m) (w:Int) (t:Bool) (hw:w≤4):EW k n (busyF d m w t):=⟨⟨hm.s0,hm.s4⟩,hw,h.q,h.l⟩
theorem EW.setS (h:EW k n d) (s:Sh):EW k n (d.setS s):=⟨h.a,h.w,h.q,h.l⟩
theorem EW.setT (h:EW k n d) (s:Bool):EW k n (d.setT s):=⟨h.a,h.w,h.q,h.l⟩
theorem EW.setW (h:EW k n d) (w:Int) (hw:w≤4):EW k n (d.setW w):=⟨h.a,hw,h.q,h.l⟩
theorem EW.fre (h:EW k n d):EW k n d.fre:=⟨by show (0:Int)≤0∧(0:Int)<4;decide,h.w,h.q,h.l⟩
theorem EW.begin (h:EW k n d) (hm:RqOk n m):EW k n (beginF bs d m).1:=by
 have h4:(othersF (leaveF d m.src).sh m.src).length≤4:=oth_len ..
 have hl:=h.leave m.src
 unfold beginF
 dsimp only
 repeat' split
 ·exact hl
 ·exact hl
 ·exact hl.busy hm 1 false (by decide)
 ·exact (hl.own _).busy hm 0 true (by decide)
 ·exact hl.busy hm ((othersF (leaveF d m.src).sh m.src).length:Int) false (by omega)
 ·exact (hl.own _).busy hm 0 true (by decide)
 ·exact (hl.setS _).busy hm 0 true (by decide)
theorem EW.qq (h:EW k n d) {q:List Msg} {k':Nat} (hq:∀ x∈q,RqOk n x) (hl:q.length≤k'):EW k' n (d.setQ q):=⟨h.a,h.w,hq,hl⟩
theorem EW.drain:∀ (q:List Msg) (bs:List Int) (d:Ent),EW k n d→(∀ x∈q,RqOk n x)→q.length≤k→EW k n (drainF q bs d).1
 | [],bs,d,h,hq,hl=>h.qq hq hl
 | m::r,bs,d,h,hq,hl=>by
  have hr:∀ x∈r,RqOk n x:=fun x hx=>hq x (.tail _ hx)
  have hrl:r.length≤k:=by simp only [List.length_cons] at hl;omega
  cases hb:d.busy with
  | true=>
   rw [show drainF (m::r) bs d=(d.setQ (m::r),bs,[]) from if_pos hb]
   exact h.qq hq hl
  | false=>
   rw [show drainF (m::r) bs d=_ from if_neg (by rw [hb];decide)]
   exact EW.drain r _ _ ((h.qq hr hrl).begin (hq m (.head _))) hr hrl
theorem EW.req (h:EW k n d) (hm:RqOk n m):EW (k+1) n (reqF bs d m).1:=by
 unfold reqF
 split
 ·refine h.qq (fun x hx=>?_) (by rw [List.length_append];have:=h.l;simp;omega)
  rcases List.mem_append.1 hx with hx | hx
  ·exact h.q x hx
  ·rw [List.mem_singleton] at hx;subst hx;exact hm
 ·exact (h.begin hm).mono (Nat.le_succ k)
theorem EW.back (h:EW k n d):EW k n (backH bs d m).1:=by
 unfold backH
 dsimp only
 split
 ·exact ((h.setW 0 (by decide)).own _).setT _
 ·exact (((h.setW 0 (by decide)).own _).setS _).setT _
theorem EW.ack (h:EW k n d):EW k n (ackH bs d m).1:=by
 have:=h.w
 unfold ackH
 dsimp only
 split
 ·exact (((h.setS _).setW _ (by omega)).own _).setT _
 ·exact (h.setS _).setW _ (by omega)
theorem setLn_len (hn:Byt bs n) (hm:m.line=n) (b:B16):(setLn bs m.line b).length=bs.length:=by
 subst hm
 exact set_len hn.n1 b.2.1
theorem beg_bl (hn:Byt bs n) (hm:m.line=n):(beginF bs d m).2.1.length=bs.length∧Byt (beginF bs d m).2.1 n:=by
 unfold beginF
 dsimp only
 repeat' split
 all_goals first
  | exact ⟨rfl,hn⟩
  | exact ⟨setLn_len hn hm _,hn.set _ hm _⟩
theorem req_bl (hn:Byt bs n) (hm:m.line=n):(reqF bs d m).2.1.length=bs.length:=by
 unfold reqF
 split
 ·rfl
 ·exact (beg_bl hn hm).1
theorem back_bl (hn:Byt bs n) (hm:m.line=n):(backH bs d m).2.1.length=bs.length:=by
 unfold backH
 dsimp only
 split <;> exact setLn_len hn hm _
theorem ack_bl:(ackH bs d m).2.1=bs:=by
 unfold ackH
 dsimp only
 split <;> rfl
theorem drain_bl:∀ (q:List Msg) (bs:List Int) (d:Ent),Byt bs n→(∀ x∈q,RqOk n x)→(drainF q bs d).2.1.length=bs.length
 | [],bs,d,hn,hq=>rfl
 | m::r,bs,d,hn,hq=>by
  cases hb:d.busy with
  | true=>rw [show drainF (m::r) bs d=(d.setQ (m::r),bs,[]) from if_pos hb]
  | false=>
   rw [show drainF (m::r) bs d=_ from if_neg (by rw [hb];decide)]
   obtain ⟨b1,b2⟩:=beg_bl (d:=d.setQ r) hn (hq m (.head _)).l
   exact (drain_bl r _ _ b2 fun x hx=>hq x (.tail _ hx)).trans b1
end
theorem HOk.put {k:Nat} {h:HD} {n:Nat} {bs:List Int} {d:Ent} (a:HOk k h) (hn:n<h.E.length) (hb:Byt bs (n:Int)) (hl:bs.length=h.bs.length) (hd:EW (k+1) (n:Int) d):HOk (k+1) ⟨bs,h.E.set n d⟩:=
 ⟨hb.r,hb.l,by show 0<bs.length;rw [hl];exact a.p,by show (h.E.set n d).length=bs.length/16;rw [List.length_set,hl];exact a.e,fun i hi=>by
  show EW (k+1) (i:Int) (entOf (h.E.set n d) i)
  have hi:i<h.E.length:=by rw [show (⟨bs,h.E.set n d⟩:HD).E=h.E.set n d from rfl,List.length_set] at hi;exact hi
  unfold entOf
  by_cases e:n=i
  ·subst e
   rw [List.getD_eq_getElem?_getD,List.getElem?_set_self hn]
   exact hd
  ·rw [List.getD_eq_getElem?_getD,List.getElem?_set_ne e,← List.getD_eq_getElem?_getD]
   exact (a.w i hi).mono (Nat.le_succ k)⟩
theorem KOk.put {E:List Ent} {es:List (Nat × Nat)} {n b:Nat} {d:Ent} (hn:n<E.length) (h:KOk E es) (hno:n ∉ keys es):KOk (E.set n d) ((n,b)::es):=
 ⟨List.nodup_cons.2 ⟨hno,h.nd⟩,fun i hi=>by
  rw [List.length_set]
  rcases List.mem_cons.1 hi with e | hi
  ·rw [e];exact hn
  ·exact h.lt i hi,fun i hi=>by
  have e:n≠i:=fun e=>hi (by rw [e];exact .head _)
  have:=h.no i fun x=>hi (.tail _ x)
  unfold entOf at *
  rw [List.getD_eq_getElem?_getD,List.getElem?_set_ne e,← List.getD_eq_getElem?_getD]
  exact this⟩
theorem keys_mid {a c:List (Nat × Nat)} {n b b':Nat}:keys (a++(n,b)::c)=keys (a++(n,b')::c):=by simp [keys]
theorem KOk.upd {E:List Ent} {a c:List (Nat × Nat)} {n b b':Nat} {d:Ent} (h:KOk E (a++(n,b)::c)):KOk (E.set n d) (a++(n,b')::c):=by
 have e:=keys_mid (a:=a) (c:=c) (n:=n) (b:=b) (b':=b')
 refine ⟨e ▸ h.nd,fun i hi=>by rw [List.length_set];exact h.lt i (e ▸ hi),fun i hi=>?_⟩
 have hne:n≠i:=fun x=>hi (by rw [← x];simp [keys])
 have:=h.no i (e ▸ hi)
 unfold entOf at *
 rw [List.getD_eq_getElem?_getD,List.getElem?_set_ne hne,← List.getD_eq_getElem?_getD]
 exact this
theorem ents_other {E:List Ent} {n:Nat} {d:Ent} {es:List (Nat × Nat)} {h:Hl} (hno:n ∉ keys es) (hs:entsC E es h):entsC (E.set n d) es h:=many_imp hs fun x hx g hg=>by
 have hne:n≠x.1:=fun e=>hno (by rw [e];exact List.mem_map_of_mem hx)
 have:entOf (E.set n d) x.1=entOf E x.1:=by
  unfold entOf
  rw [List.getD_eq_getElem?_getD,List.getElem?_set_ne hne,← List.getD_eq_getElem?_getD]
 show entC x.2 (entOf (E.set n d) x.1) g
 rw [this]
 exact hg
theorem ent_set {E:List Ent} {n:Nat} {d:Ent} (hn:n<E.length):entOf (E.set n d) n=d:=by
 unfold entOf
 rw [List.getD_eq_getElem?_getD,List.getElem?_set_self hn]
 rfl
theorem ents_new {E:List Ent} {n b:Nat} {d:Ent} {es:List (Nat × Nat)} (hn:n<E.length) (hno:n ∉ keys es):∀ h,Sep [.hp (entC b d),.hp (entsC E es)] h→entsC (E.set n d) ((n,b)::es) h:=fun h hs=>by
 show Sep [.hp (entC b (entOf (E.set n d) n)),.hp (entsC (E.set n d) es)] h
 rw [ent_set hn]
 exact hs.mapTl fun _ hh=>hh.hd (q := .hp (entsC (E.set n d) es)) fun _ hq=>ents_other hno hq
theorem ents_upd {E:List Ent} {n b b':Nat} {d:Ent} {a c:List (Nat × Nat)} (hn:n<E.length) (ha:n ∉ keys a) (hc:n ∉ keys c):∀ h,Sep [.hp (entC b' d),.hp (entsC E (a++(n,b)::c))] h→entsC (E.set n d) (a++(n,b')::c) h:=fun h hs=>by
 refine many_in a ?_
 show Sep [.hp (entC b' (entOf (E.set n d) n)),.hp (entsC (E.set n d) (a++c))] h
 rw [ent_set hn]
 have hno:n ∉ keys (a++c):=by simp only [keys,List.map_append,List.mem_append];exact fun x=>x.elim ha hc
 exact hs.mapTl fun _ hh=>hh.hd (q := .hp (entsC (E.set n d) (a++c))) fun _ hq=>ents_other hno (many_up (many_drop hq))
def home0 (bs:List Int):HD:=⟨bs,List.replicate (bs.length/16) ent0⟩
theorem ent_rep (n k:Nat):entOf (List.replicate n ent0) k=ent0:=by
 unfold entOf
 rw [List.getD_eq_getElem?_getD]
 cases h:(List.replicate n ent0)[k]? with
 | none=>rfl
 | some x=>
  have:=List.mem_of_getElem? h
  rw [List.mem_replicate] at this
  exact this.2
theorem ent0_ok (n:Int):EW 0 n ent0:=⟨by decide,by decide,fun m h=>(by cases h),Nat.le_refl 0⟩
theorem home0_ok {bs:List Int} (h0:0<bs.length) (hl:bs.length≤1048576) (hr:∀ a∈bs,0≤a∧a<256):HOk 0 (home0 bs):=⟨hr,hl,h0,List.length_replicate,fun n _=>by rw [show (home0 bs).E=List.replicate (bs.length/16) ent0 from rfl,ent_rep];exact ent0_ok _⟩
theorem kok0 (bs:List Int):KOk (home0 bs).E []:=⟨List.nodup_nil,fun n h=>(by cases h),fun n _=>ent_rep _ _⟩
theorem many_nil {β:Type} {F:β→HP} {L:List Ck} {h:Hl} (hs:Sep L h):Sep (.hp (manyC F [])::L) h:=⟨fun _=>none,h,fun _ _ e=>(by cases e),Le.refl h,fun _ => .inl rfl,trivial,hs⟩
theorem c71 (b:Nat) (bs:List Int) (h0:0<bs.length) (hl:bs.length≤1048576) (hr:∀ a∈bs,0≤a∧a<256):Sp Tryz.prog 71 [pt b] [.hp (imgC b bs)] fun K=>∀ b',K (.returned (.tuple #[pt b',.int .i64 0])) [.hp (homC 0 b' (home0 bs)),.hp (imgC b bs)]:=by
 refine Zen Tryz.func71 U U U fun e X Φ hS=>Zsr<|Zb 2 U<|Zns<|Zm U<|Zk (c63 ..) [0] U U<|fun b'=>?_
 refine Zq<|Zy U<|Znqs<|Zm U<|Zv (ypeq U U U)<|Zn ?_
 refine Zcf U<|Zks<|Zm U<|Ze (emk .u32) fun r10=>Zw<|Zv (yb l158 U)<|Ze (ebx U) fun b12=>Zw<|Zb 2 U ?_
 refine Znr ?_
 refine Zix (fun _ hs=>many_nil (F:=fun x:Nat × Nat=>entC x.2 (entOf (home0 bs).E x.1)) hs) ?_
 refine Zfx [1,3,1,0] (hom_fold (k:=0) (b:=b12) (h:=home0 bs) (es:=[]) (home0_ok h0 hl hr) (kok0 bs)) U<|Zre (.t U (.t U .n)) (hS _) [0,0] 0 U U U U
theorem c25 (k b:Nat) (h:HD):Sp Tryz.prog 25 [pt b] [.hp (homC k b h)] fun K=>∀ b',K (.returned (pt b')) [.hp (imgC b' h.bs),.hp (homC k b h)]:=by
 refine Zen Tryz.func25 U U U fun e X Φ hS=>Zsr<|Zy U<|Znqs<|Zm U<|Zk (c62 ..) [0] U U<|Zq ?_
 refine Zn<|Zcf U<|Zks<|Za 3 [0] U U ?_
 refine Zol 0 hom_op U<|fun ok bi r kE hK=>Zv (yd 0 U U U) ?_
 have hp:=ok.p
 have hl:=ok.l
 refine Zk (c63 bi h.bs hp hl) [1] U U<|fun b'=>Zq<|Zy U<|Znr ?_
 refine Zfx [2,0,1,1] (hom_fold (k:=k) (h:=h) ok hK) U<|Zre (.t U .n) (hS _) [1,0] 0 U U U U
theorem ents_cons {E:List Ent} {n b:Nat} {es:List (Nat × Nat)}:∀ h,Sep [.hp (entC b (entOf E n)),.hp (entsC E es)] h→entsC E ((n,b)::es) h:=fun _ hs=>hs
theorem ents_op' {E:List Ent} {kE:List (Nat × Nat)} {n b:Nat} {a c:List (Nat × Nat)} (e:kE=a++(n,b)::c):Op_ (entsC E kE) fun K=>K [.hp (entC b (entOf E n)),.hp (entsC E (a++c))]:=e ▸ ents_op
theorem ents_in' {E:List Ent} {kE:List (Nat × Nat)} {n b:Nat} {a c:List (Nat × Nat)} (e:kE=a++(n,b)::c):∀ h,Sep [.hp (entC b (entOf E n)),.hp (entsC E (a++c))] h→entsC E kE h:=e ▸ ents_in
structure CpI (kE:List (Nat × Nat)) (p:List MapEntry × List (Nat × Nat)):Prop where
 a:∀ s∈p.1,s∈esOf .u32 (mp kE)
 b:∀ s∈p.1,∃ n∈keys p.2,s.key = .int .u32 (n:Int)
 c:∀ n∈keys p.2,∃ s∈p.1,s.key = .int .u32 (n:Int)
 d:(keys p.2).Nodup
 e:∀ n∈keys p.2,n∈keys kE
theorem CpI.nil (kE:List (Nat × Nat)):CpI kE ([],[]):=⟨fun s h=>(by cases h),fun s h=>(by cases h),fun n h=>(by cases h),List.nodup_nil,fun n h=>(by cases h)⟩
theorem mp_keys (kE:List (Nat × Nat)) (h:(keys kE).Nodup):((mp kE).map (·.1)).Nodup:=by
 have e:(mp kE).map (·.1)=(keys kE).map (fun n:Nat=>(n:Int)):=by simp [mp,keys,List.map_map,Function.comp_def]
 rw [e]
 exact List.pairwise_map.2 (h.imp fun hab x=>hab (by omega))
theorem CpI.fresh {kE:List (Nat × Nat)} {p:List MapEntry × List (Nat × Nat)} (h:CpI kE p) (hn:(keys kE).Nodup) {s:MapEntry} (hs:s∈esOf .u32 (mp kE)) (hns:s ∉ p.1) {n:Nat} (hk:s.key = .int .u32 (n:Int)):n ∉ keys p.2:=fun hm=>by
 obtain ⟨s',h1,h2⟩:=h.c n hm
 exact hns (es_key (mp_keys kE hn) (h.a s' h1) hs (h2.trans hk.symm) ▸ h1)
theorem CpI.step {kE:List (Nat × Nat)} {p:List MapEntry × List (Nat × Nat)} (h:CpI kE p) (hn:(keys kE).Nodup) {s:MapEntry} (hs:s∈esOf .u32 (mp kE)) (hns:s ∉ p.1) {n:Nat} (hk:s.key = .int .u32 (n:Int)) (hin:n∈keys kE) (b':Nat):CpI kE (p.1++[s],(n,b')::p.2):=by
 have hf:=h.fresh hn hs hns hk
 refine ⟨fun x hx=>?_,fun x hx=>?_,fun x hx=>?_,List.nodup_cons.2 ⟨hf,h.d⟩,fun x hx=>?_⟩
 ·rcases List.mem_append.1 hx with hx | hx
  ·exact h.a x hx
  ·rw [List.mem_singleton] at hx;subst hx;exact hs
 ·rcases List.mem_append.1 hx with hx | hx
  ·obtain ⟨m,h1,h2⟩:=h.b x hx
   exact ⟨m,.tail _ h1,h2⟩
  ·rw [List.mem_singleton] at hx;subst hx;exact ⟨n,.head _,hk⟩
 ·rcases List.mem_cons.1 hx with e | hx
  ·exact ⟨s,List.mem_append.2 (.inr (.head _)),by rw [e];exact hk⟩
  ·obtain ⟨x',h1,h2⟩:=h.c x hx
   exact ⟨x',List.mem_append.2 (.inl h1),h2⟩
 ·rcases List.mem_cons.1 hx with e | hx
  ·rw [e];exact hin
  ·exact h.e x hx
theorem CpI.len {kE:List (Nat × Nat)} {p:List MapEntry × List (Nat × Nat)} (h:CpI kE p):p.2.length≤kE.length:=by
 have:=nodup_le _ _ h.d h.e
 simpa [keys] using this
theorem CpI.done {E:List Ent} {kE:List (Nat × Nat)} {p:List MapEntry × List (Nat × Nat)} (h:CpI kE p) (hK:KOk E kE) (hall:∀ s∈esOf .u32 (mp kE),s∈p.1):KOk E p.2:=by
 refine ⟨h.d,fun n hn=>hK.lt n (h.e n hn),fun n hn=>hK.no n fun hm=>hn ?_⟩
 obtain ⟨x,hx,e⟩:=List.mem_map.1 hm
 obtain ⟨s,hs,hk⟩:=mem_es (k := .u32) (show ((x.1:Int),Value.pointer (some ⟨x.2,0,none⟩))∈mp kE from List.mem_map.2 ⟨x,hx,rfl⟩)
 obtain ⟨m,h1,h2⟩:=h.b s (hall s hs)
 rw [h2] at hk
 cases e
 have:m=x.1:=by
  have:=Value.int.inj hk
  omega
 rw [← this]
 exact h1
theorem c40 (k b:Nat) (h:HD) (hk2:k≤1000):Sp Tryz.prog 40 [pt b] [.hp (homC k b h)] fun K=>∀ b',K (.returned (pt b')) [.hp (homC k b' h),.hp (homC k b h)]:=by
 refine Zen Tryz.func40 U U U fun e X Φ hS=>Zsr<|Zy U<|Znqs<|Zm U<|Zk (c62 ..) [0] U U<|Zq ?_
 refine Zn<|Zcf U<|Zks<|Za 3 [0] U U ?_
 refine Zol 0 hom_op U<|fun ok bi r kE hK=>Zv (yd 0 U U U) ?_
 have hp:=ok.p
 have hl:=ok.l
 refine Zk (c63 ..) [1] U U<|fun b'=>Zq<|Ze (emk .u32) fun r14=>Zw<|Zv (yb l158 U)<|Ze (ebx U) fun b16=>Zw<|Zy U<|Znq ?_
 refine Zsr<|Za 4 [1,4] U U ?_
 refine Ze (emr 5 U U Tryz.underlying156)<|fun it=>Zw<|Znb ?_
 refine Zic (fun _ hs=>many_nil (F:=fun x:Nat × Nat=>entC x.2 (entOf h.E x.1)) hs) ?_
 refine Zlq (ι:={ p:List MapEntry × List (Nat × Nat) // CpI kE p }) (fun _=>[(21,pt it),(3,pt b16)]) (fun p=>[iterC it r (mp kE) p.1.1,mapC .u32 r14 (mp p.1.2),.hp (entsC h.E p.1.2),.hp (entsC h.E kE)]) (fun p=>kE.length-p.1.2.length) ⟨([],[]),CpI.nil kE⟩ ⟨U,U,trivial⟩ [1,2,0,5] U fun p=>Zsr ?_
 refine Ze (enx 0 8 U U U p.2.a) ⟨fun hall=>?_,fun s hs hns L' hL'=>?_⟩
 ·refine Zw ?_
  refine Zv (yx U U)<|Znq<|Zcf U<|Zex<|Zxt<|Zxt<|Zxx<|Znx ?_
  refine Zsr<|Zb 2 U<|Znr ?_
  have hK2:=p.2.done hK hall
  refine Zfx [4,5,1,1] (hom_fold (k:=k) (h:=h) (es:=p.1.2) ok hK2) U ?_
  refine Zfx [4,3,3,2] (hom_fold (k:=k) (h:=h) (es:=kE) ok hK) U<|Zre (.t U .n) (hS _) [1,0] 1 U U U U
 ·cases hL'
  refine Zw ?_
  refine Zv (yx U U)<|Znq<|Zct U<|Zkn<|Zbl<|Zsr ?_
  obtain ⟨x,hx,k1,k2,_⟩:=es_mem hs
  obtain ⟨⟨n,bn⟩,hm,rfl⟩:=List.mem_map.1 hx
  have k1':s.key = .int .u32 (n:Int):=k1
  have k2':s.val=pt bn:=k2
  have hf:=p.2.fresh hK.nd hs hns k1'
  have hin:n∈keys kE:=List.mem_map.2 ⟨_,hm,rfl⟩
  obtain ⟨a,c,hE⟩:=List.append_of_mem hm
  have hlq:(entOf h.E n).q.length≤1048576:=by have:=(ok.w n (hK.lt n hin)).l;omega
  refine Zv (yen 0 8 U U U hs) ?_
  rw [k1',k2']
  refine Zol 3 (ents_op' hE) U<|Zb 4 U<|Zns<|Zb 2 U ?_
  refine Zol 0 ent_op U<|fun A cap=>Zv (ydw 0 (m:=11) U U U) ?_
  refine Zk (c81 A cap (entOf h.E n) hlq) [1] U U<|fun A'=>fun cap'=>Zq<|Ze (eal z165) fun b6=>Zw<|Ze (esw 0 (m:=11) U U U U U U U)<|Zw0<|Zn<|Zrg<|Zm U ?_
  refine Za 4 [1,8] U U<|Ze (emu 6 U U U U U Tryz.underlying156 Tryz.underlying40)<|Zw0<|Znl<|Zxn ?_
  rw [ups_no hf]
  refine Zfx [3,2] (ent_fold (b:=bn) (d:=entOf h.E n)) U ?_
  refine Zfx [0,2] (ents_in' hE) U ?_
  refine Zfx [1,1] (ent_fold (b:=b6) (d:=entOf h.E n)) U ?_
  refine Zfx [0,3] (ents_cons (E:=h.E) (n:=n) (b:=b6) (es:=p.1.2)) U ?_
  have hs2:=p.2.step hK.nd hs hns k1' hin b6
  have hm2:kE.length-((n,b6)::p.1.2).length<kE.length-p.1.2.length:=by
   have:=hs2.len
   simp only [List.length_cons] at this ⊢
   omega
  refine Zlr ⟨(p.1.1++[s],(n,b6)::p.1.2),hs2⟩ hm2 ⟨U,U,trivial⟩ [2,2,0,0] 0 U U
def ptrE (T:Nat):Enc Tryz.prog Nat where
 T:=T
 n:=1
 cells:=fun b=>[pt b]
 len:=fun _=>rfl
 one:=fun x v hv=>by
  rw [List.mem_singleton] at hv
  subst hv
  rfl
 pos:=by decide
structure MD where
 C:List Cor
 D:List CD
 most:Int
 q:List Msg
 h:HD
structure MD.Ok (k:Nat) (m:MD):Prop where
 n0:0<m.C.length
 n1:m.C.length≤4
 d:m.D.length=m.C.length
 m0:1≤m.most
 m1:m.most≤1024
 q:(m.q.length:Int)≤m.most
abbrev corsC (k:Nat) (l:List (Nat × Cor)):HP:=manyC (fun x:Nat × Cor=>corC k x.1 x.2) l
abbrev cacsC (l:List (Nat × CD)):HP:=manyC (fun x:Nat × CD=>cacC x.1 x.2) l
def partC (k b:Nat) (m:MD):HP:=fun g=>m.Ok k∧∃ A cap B capb bn bh cb kb,(cb.length=m.C.length∧kb.length=m.C.length)∧Sep [.blk b 108 [.slice A cb.length cap,.slice B kb.length capb,pt bn,pt bh],.hp (own (ptrE 74) A cap cb),.hp (own (ptrE 80) B capb kb),.hp (corsC k (cb.zip m.C)),.hp (cacsC (kb.zip m.D)),.hp (netC bn m.most m.q),.hp (homC k bh m.h)] g
theorem part_op {k b:Nat} {m:MD}:Op_ (partC k b m) fun K=>m.Ok k→∀ A cap B capb bn bh cb kb,(cb.length=m.C.length∧kb.length=m.C.length)→K [.blk b 108 [.slice A cb.length cap,.slice B kb.length capb,pt bn,pt bh],.hp (own (ptrE 74) A cap cb),.hp (own (ptrE 80) B capb kb),.hp (corsC k (cb.zip m.C)),.hp (cacsC (kb.zip m.D)),.hp (netC bn m.most m.q),.hp (homC k bh m.h)] := .mk fun G K g hh=>by
 obtain ⟨ok,A,cap,B,capb,bn,bh,cb,kb,hl,hs⟩:=hh
 exact ⟨_,K ok A cap B capb bn bh cb kb hl,hs⟩
theorem part_fold {k b cap capb bn bh:Nat} {m:MD} {A B:Option Addr} {cb kb:List Nat} (ok:m.Ok k) (hl:cb.length=m.C.length∧kb.length=m.C.length):∀ g,Sep [.blk b 108 [.slice A cb.length cap,.slice B kb.length capb,pt bn,pt bh],.hp (own (ptrE 74) A cap cb),.hp (own (ptrE 80) B capb kb),.hp (corsC k (cb.zip m.C)),.hp (cacsC (kb.zip m.D)),.hp (netC bn m.most m.q),.hp (homC k bh m.h)] g→partC k b m g:=fun _ hs=>⟨ok,A,cap,B,capb,bn,bh,cb,kb,hl,hs⟩
theorem cors_op {k i:Nat} {l:List (Nat × Cor)} {x:Nat × Cor} (e:l[i]? = some x):Op_ (corsC k l) fun K=>K [.hp (corC k x.1 x.2),.hp (corsC k (l.eraseIdx i))] := .mk fun G K h hh=>⟨_,K,many_at e hh⟩
theorem cacs_op {i:Nat} {l:List (Nat × CD)} {x:Nat × CD} (e:l[i]? = some x):Op_ (cacsC l) fun K=>K [.hp (cacC x.1 x.2),.hp (cacsC (l.eraseIdx i))] := .mk fun G K h hh=>⟨_,K,many_at e hh⟩
theorem zip_set {α β:Type}:∀ {a:List α} {l:List β} {i:Nat} {x:α} {y:β},a[i]? = some x→(a.zip l).set i (x,y)=a.zip (l.set i y)
 | [],_,_,_,_,e=>by simp at e
 | _::_,[],_,_,_,_=>by simp
 | z::a,w::l,0,x,y,e=>by
  simp at e
  subst e
  rfl
 | z::a,w::l,i+1,x,y,e=>by
  simp at e
  simp [zip_set (a:=a) (l:=l) (i:=i) (y:=y) e]
theorem zip_at {α β:Type} {a:List α} {l:List β} {i:Nat} {x:α} {y:β} (h1:a[i]? = some x) (h2:l[i]? = some y):(a.zip l)[i]? = some (x,y):=List.getElem?_zip_eq_some.2 ⟨h1,h2⟩
theorem cors_in {k i b:Nat} {cb:List Nat} {l:List Cor} {c:Cor} (e:cb[i]? = some b) (hi:i<(cb.zip l).length):∀ h,Sep [.hp (corC k b c),.hp (corsC k ((cb.zip l).eraseIdx i))] h→corsC k (cb.zip (l.set i c)) h:=fun h hs=>by
 rw [← zip_set e]
 exact many_set (F:=fun x:Nat × Cor=>corC k x.1 x.2) (y:=(b,c)) hi hs
theorem cacs_in {i b:Nat} {cb:List Nat} {l:List CD} {c:CD} (e:cb[i]? = some b) (hi:i<(cb.zip l).length):∀ h,Sep [.hp (cacC b c),.hp (cacsC ((cb.zip l).eraseIdx i))] h→cacsC (cb.zip (l.set i c)) h:=fun h hs=>by
 rw [← zip_set e]
 exact many_set (F:=fun x:Nat × CD=>cacC x.1 x.2) (y:=(b,c)) hi hs
theorem cors_mono {k k':Nat} {l:List (Nat × Cor)} (hk:k≤k'):∀ g,Sep [.hp (corsC k l)] g→corsC k' l g:=fun g hs=>many_imp (many_up hs) fun x _ h hc=>cor_mono hk h (sep_hp1 hc)
theorem MD.Ok.mono {k k':Nat} {m:MD} (a:m.Ok k):m.Ok k':=⟨a.n0,a.n1,a.d,a.m0,a.m1,a.q⟩
theorem c38 (x:Cho):Sp Tryz.prog 38 [.agg (choE.arr x)] [] fun K=>K (.returned (.bool (decide (1≤x.kind) && decide (x.kind≤5)))) []:=by
 refine Zen Tryz.func38 U U U fun e X Φ hS=>Zsr<|Ze (ebxE U) fun b1=>Zw<|Zy U<|Zns<|Za 3 [0,0] U U ?_
 refine Zm U<|Zgs U U (fun h6=>?_) (fun h6=>?_)
 refine Zg' U U (dT h6)<|Zv (yf 0 U)<|Zg' U U (dT h6)<|Zv (yd 0 U U U)<|Zg' U U (dT h6)<|Zv (yle U U)<|Zv (ypt' U (dT h6) U)<|Zy U<|Zn ?_
 refine Zrt<|Zre (.t U .n) hS [] 1 ?_ U U U
 rotate_left
 refine Zu' U U (dF h6) U<|Zu' U U (dF h6) U<|Zu' U U (dF h6) U<|Zv (ypf' U (dF h6) U)<|Zy U<|Znr<|Zre (.t U .n) hS [] 1 ?_ U U U
 rotate_left
 all_goals simp [pk, *]
theorem c37 (x:Cho):Sp Tryz.prog 37 [.agg (choE.arr x)] [] fun K=>K (.returned (.bool (!(decide (1≤x.kind) && decide (x.kind≤5))))) []:=by
 refine Zen Tryz.func37 U U U fun e X Φ hS=>Zsr<|Ze (ebxE U) fun b1=>Zw<|Zy U<|Zns<|Zv (ydw 0 (m:=3) U U (Enc.len ..))<|Zk (c38 ..) [] U U<|Zq ?_
 refine Zb 2 U<|Znr<|Zre (.t U .n) hS [] 1 U U U U
theorem c51 (pick:Int) (n:Nat) (h0:0<n) (hn:n≤1048576) (hp : -9223372036854775808≤pick∧pick≤9223372036854775807):Sp Tryz.prog 51 [.int .i64 pick,.int .i64 (n:Int)] [] fun K=>K (.returned (.int .i64 ((pickAt pick n:Nat):Int))) []:=by
 obtain ⟨p1,p2,p3,p4⟩:=pick_lt pick h0
 have e1:IntKind.i64.wrap (pick.tmod n+n)=pick.tmod n+n:=i64w rfl (by omega)
 refine Zen Tryz.func51 U U U fun e X Φ hS=>Zsr<|Zy U<|Zns<|Zb 2 U<|Zv (yrem U U (by omega) U)<|Zm U ?_
 refine Zv (yadd U U (i64w U (by omega)))<|Zm U<|Zv (yrem U U (by omega) U)<|Zy U<|Znr<|Zre (.t U .n) hS [] 0 ?_ U U U
 all_goals (rw [p1];rfl)
def sendsF (most:Int):List Msg→List Msg→List Msg
 | q,[]=>q
 | q,m::r=>sendsF most (sendF most q m).1 r
theorem send_len {most:Int} {q:List Msg} {m:Msg} (h:(q.length:Int)≤most):((sendF most q m).1.length:Int)≤most:=by
 unfold sendF
 repeat' split
 ·exact h
 ·exact h
 ·simp;omega
theorem sends_len {most:Int}:∀ {l q:List Msg},(q.length:Int)≤most→((sendsF most q l).length:Int)≤most
 | [],_,h=>h
 | m::l,q,h=>sends_len (l:=l) (send_len h)
theorem sends_app {most:Int}:∀ {l q:List Msg} {m:Msg},sendsF most q (l++[m])=(sendF most (sendsF most q l) m).1
 | [],_,_=>rfl
 | x::l,q,m=>sends_app (l:=l)
theorem c139 (b bn:Nat) (v0 v1 v3:Value) (A:Option Addr) (cap:Nat) (l:List Msg) (most:Int) (q:List Msg) (h1:1≤most) (h2:most≤1024) (hq:(q.length:Int)≤most) (hll:l.length≤1048576):Sp Tryz.prog 139 [pt b,.slice A l.length cap] [.blk b 108 [v0,v1,pt bn,v3],.hp (own msgE A cap l),.hp (netC bn most q)] fun K=>K (.returned (.tuple #[])) [.blk b 108 [v0,v1,pt bn,v3],.hp (own msgE A cap l),.hp (netC bn most (sendsF most q l))]:=by
 refine Zen Tryz.func139 U U U fun e X Φ hS=>?_
 refine Zsr<|Zm U<|Zv (sl_of ⟨_,Tryz.underlying112⟩ U)<|Zm U<|Znb ?_
 refine Zlq (ι:={ i:Nat // i≤l.length }) (fun i=>[(8,.int .i64 (i.1:Int)),(7,.int .i64 (l.length:Int)),(6,.slice A l.length cap),(0,pt b)]) (fun i=>[.hp (netC bn most (sendsF most q (l.take i.1)))]) (fun i=>l.length-i.1) ⟨0,by omega⟩ ⟨U,U,U,U,trivial⟩ [2] U fun i=>Zsr<|Zv (ylt U U)<|Znq<|Zif U (fun h9=>?_) (fun h9=>?_)
 refine Zkn<|Zsq<|Zbl<|Zsr<|Zv (yea 2 own.rd U U U (by first | assumption | omega) U Tryz.underlying112 U)<|Zv (yel 2 own.rd U (gE (by first | assumption | omega)) U U U)<|Ze (eal z117) fun b5=>Zw<|Ze (esw 0 (m:=20) U U U U U (Enc.len ..) (Enc.allL ..))<|Zw0<|Znl ?_
 refine Znx ?_
 rotate_left
 refine Zex<|Zxt<|Zxt<|Zxx<|Zee ?_
 rotate_left
 ·have hlt:i.1<l.length:=by omega
  have hx:=gE (l:=l) (k:=i.1) hlt
  have hn:most≠0:=by omega
  have hs:=sends_len (l:=l.take i.1) hq
  have hs2:(sendsF most q (l.take i.1)).length≤1048576:=by omega
  refine Zhd [1] U U<|Zht 0 U (ym U)<|Zht 1 U (yn U)<|Zht 2 U (yf 2 U)<|Zht 3 U (yd 1 U U U)<|Zht 4 U (ydw 0 (m:=20) U U (Enc.len ..))<|ZH1 5<|Zok (c183 ..) [0] U U U<|Zqh 1 U<|ZHn<|Zxn ?_
  refine Znx<|Zrg<|Zv (yadd U U (i64w U (by omega)))<|Zm U<|Znl ?_
  rw [← sends_app,take_snc hx]
  refine Zlr ⟨i.1+1,by omega⟩ (by show l.length-(i.1+1)<l.length-i.1;omega) ⟨U,U,U,U,trivial⟩ [0] 1 U U
 ·have hi:=i.2
  rw [List.take_of_length_le (by omega)]
  refine Zre .n hS [1,1,0] 0 U U U U
theorem outm_len (d:CD) (x:Ln):(outF d x).2.1.length≤1:=by
 unfold outF
 split
 ·exact Nat.zero_le 1
 ·split
  ·exact Nat.zero_le 1
  ·exact Nat.le_refl 1
theorem ask_len (d:CD) (line:Int) (h:U32 line) (wr:Bool) (pick:Int):(askF d line h wr pick).2.1.length≤2:=by
 unfold askF
 split
 ·exact Nat.zero_le 2
 ·split
  ·exact Nat.zero_le 2
  ·split
   ·exact Nat.le_succ 1
   ·rename_i x _
    split
    ·have:=outm_len d x
     simp
     omega
    ·exact Nat.zero_le 2
theorem askA_len (d:CD) (a:Acc) (wr:Bool) (pick:Int):(askA d a wr pick).2.1.length≤2:=by
 unfold askA
 split
 ·exact ask_len ..
 ·exact Nat.zero_le 2
theorem evict_len (d:CD) (pick:Int):(evictF d pick).2.length≤1:=by
 unfold evictF
 split
 ·exact Nat.zero_le 1
 ·exact outm_len ..
theorem ms_done (c:Cor) (d:CD) (w:Int) (x:Ans) (o:Int):(msOf (doneR c d w x o).2.2).length≤2:=Nat.zero_le 2
theorem ms_ask (c:Cor) (d:CD) (a:Acc) (wr:Bool) (pick:Int):(msOf (askR c d a wr pick).2.2).length≤2:=askA_len d a wr pick
theorem ms_nil (c:Cor) (d:CD):(msOf (failR c d []).2.2).length≤2:=Nat.zero_le 2
theorem act_len (c:Cor) (d:CD) (w pick:Int) (a:Acc):(msOf (actR c d w pick a).2.2).length≤2:=by
 unfold actR
 repeat' split
 ·unfold loadR cachR;repeat' split
  all_goals first | exact ms_nil .. | exact ms_done .. | exact ms_ask ..
 ·unfold storeR;repeat' split
  all_goals first | exact ms_nil .. | exact ms_done .. | exact ms_ask ..
 ·unfold lrR;repeat' split
  all_goals first | exact ms_nil .. | exact ms_done .. | exact ms_ask ..
 ·unfold scR;repeat' split
  all_goals first | exact ms_nil .. | exact ms_done .. | exact ms_ask ..
 ·unfold amoR;repeat' split
  all_goals first | exact ms_nil .. | exact ms_done .. | exact ms_ask ..
 ·unfold fenceR;repeat' split
  all_goals first | exact ms_nil .. | exact ms_done .. | exact ms_ask ..
 ·exact ms_done ..
theorem go_len (c:Cor) (d:CD) (pick:Int):(goF c d pick).2.2.2.length≤2:=by
 unfold goF
 repeat' split
 ·exact Nat.zero_le 2
 ·exact Nat.zero_le 2
 ·exact act_len ..
theorem drain_len (c:Cor) (d:CD) (pick:Int):(msOf (drainR c d pick).2.2).length≤2:=by
 unfold drainR
 repeat' split
 ·exact ms_nil ..
 ·exact askA_len ..
 ·exact Nat.zero_le 2
theorem take_len (d:CD) (m:Msg):(takeF d m).2.1.length≤1:=by
 unfold takeF
 repeat' split
 all_goals first | exact Nat.zero_le 1 | exact Nat.le_refl 1
theorem drn_len:∀ (q:List Msg) (bs:List Int) (d:Ent),(drainF q bs d).2.2.length≤4*q.length
 | [],_,_=>Nat.zero_le _
 | m::r,bs,d=>by
  cases hb:d.busy with
  | true=>
   rw [show drainF (m::r) bs d=(d.setQ (m::r),bs,[]) from if_pos hb]
   exact Nat.zero_le _
  | false=>
   rw [show drainF (m::r) bs d=_ from if_neg (by rw [hb];decide)]
   have h1:=beg_len bs (d.setQ r) m
   have h2:=drn_len r (beginF bs (d.setQ r) m).2.1 (beginF bs (d.setQ r) m).1
   simp only [List.length_append,List.length_cons]
   omega
theorem takeH_len {k:Nat} {h:HD} (ok:HOk k h) (m:Msg):(takeH h m).2.1.length≤4*k+4:=by
 unfold takeH
 split
 ·exact Nat.zero_le _
 ·split
  ·exact Nat.zero_le _
  ·rename_i h1
   have hn:=m.hn
   have hq:=(ok.w m.line.toNat (by omega)).l
   have h3:=drn_len (entOf h.E m.line.toNat).q h.bs (entOf h.E m.line.toNat).fre
   have h4:=beg_len h.bs (entOf h.E m.line.toNat) m
   repeat' split
   ·show (backH _ _ _).2.2.length≤_
    unfold backH;dsimp only;split <;> (show 1≤_;omega)
   ·exact Nat.zero_le _
   ·show (ackH _ _ _).2.2.length≤_
    unfold ackH;dsimp only;split
    ·show 1≤_;omega
    ·exact Nat.zero_le _
   ·exact Nat.zero_le _
   ·show (drainF _ _ _).2.2.length≤_
    omega
   ·exact Nat.zero_le _
   ·show (reqF _ _ _).2.2.length≤_
    unfold reqF;split
    ·exact Nat.zero_le _
    ·omega
theorem del_len {q:List Msg} {k:Nat} {x:Msg} (h:q[k]? = some x):(delF q k).length+1=q.length:=by
 have:=(List.getElem?_eq_some_iff.1 h).1
 unfold delF
 simp
 omega
theorem net_eq {b:Nat} {most:Int} {q q':List Msg} (e:q=q'):∀ h,Sep [.hp (netC b most q)] h→netC b most q' h:=fun h hs=>by
 subst e
 obtain ⟨h1,_,hle,_,_,⟨A,cap,hp⟩,_⟩:=hs
 exact ⟨A,cap,hp.up hle⟩
theorem hom_ok {k b:Nat} {h:HD}:Op_ (homC k b h) fun K=>HOk k h→K [.hp (homC k b h)] := .mk fun G K g hh=>⟨_,K hh.1,sep_hp1 hh⟩
def MD.put (m:MD) (i:Nat) (c:Cor) (d:CD) (q:List Msg):MD:=⟨m.C.set i c,m.D.set i d,m.most,q,m.h⟩
theorem MD.Ok.put {k k':Nat} {m:MD} (a:m.Ok k) (i:Nat) (c:Cor) (d:CD) {q:List Msg} (hq:(q.length:Int)≤m.most):(m.put i c d q).Ok k':=⟨by show 0<(m.C.set i c).length;rw [List.length_set];exact a.n0,by show (m.C.set i c).length≤4;rw [List.length_set];exact a.n1,by show (m.D.set i d).length=(m.C.set i c).length;rw [List.length_set,List.length_set];exact a.d,a.m0,a.m1,hq⟩
theorem part_put {k b cap capb bn bh i:Nat} {m:MD} {c:Cor} {d:CD} {q:List Msg} {A B:Option Addr} {cb kb:List Nat} (ok:(m.put i c d q).Ok k) (hl1:cb.length=m.C.length) (hl2:kb.length=m.C.length):∀ g,Sep [.blk b 108 [.slice A cb.length cap,.slice B kb.length capb,pt bn,pt bh],.hp (own (ptrE 74) A cap cb),.hp (own (ptrE 80) B capb kb),.hp (corsC k (cb.zip (m.C.set i c))),.hp (cacsC (kb.zip (m.D.set i d))),.hp (netC bn m.most q),.hp (homC k bh m.h)] g→partC k b (m.put i c d q) g:=part_fold (m:=m.put i c d q) ok ⟨hl1.trans List.length_set.symm,hl2.trans List.length_set.symm⟩
def spoilF (m:MD) (i:Nat):MD:=match m.C[i]? with | some c=>⟨m.C.set i (c.setR none),m.D,m.most,m.q,m.h⟩ | none=>m
theorem c96 (k b i:Nat) (pick:Int) (m:MD) (hi:i<m.C.length):Sp Tryz.prog 96 [pt b,.int .i64 (i:Int),.int .i64 pick] [.hp (partC k b m)] fun K=>K (.returned (.agg (didE.arr did0))) [.hp (partC k b (spoilF m i))]:=by
 refine Zen Tryz.func96 U U U fun e X Φ hS=>Zoc 0 part_op U<|fun ok A cap B capb bn bh cb kb hl=>?_
 obtain ⟨hl1,hl2⟩:=hl
 have hci:=gE (l:=cb) (k:=i) (by omega)
 have hCi:=gE hi
 have hz:=zip_at hci hCi
 have hzl:i<(cb.zip m.C).length:=(List.getElem?_eq_some_iff.1 hz).1
 have hic:i<cb.length:=by omega
 refine Zoc 3 (cors_op hz) U<|Zsr<|Ze (eal z53) fun b6=>Zw<|Zns<|Za 4 [0,3] U U ?_
 refine Zm U<|Zv (yea 4 own.rd U U U (by first | assumption | omega) U Tryz.underlying105 U)<|Zv (yec (m:=0) 4 own.rd U (by assumption) U U U)<|Zk (c145 ..) [1] U U<|Zq<|Zns<|Zv (yb l53 U)<|Ze (esw 1 (m:=20) U U U U U U U)<|Zw0 ?_
 refine Znr ?_
 rw [show spoilF m i=⟨m.C.set i (m.C[i].setR none),m.D,m.most,m.q,m.h⟩ by unfold spoilF;rw [hCi]] at hS
 have ok':(⟨m.C.set i (m.C[i].setR none),m.D,m.most,m.q,m.h⟩:MD).Ok k:=⟨by rw [List.length_set];exact ok.n0,by rw [List.length_set];exact ok.n1,by rw [List.length_set];exact ok.d,ok.m0,ok.m1,ok.q⟩
 refine Zfx [0,1] (cors_in (c:=m.C[i].setR none) hci hzl) U ?_
 refine Zfx [2,2,2,0,1,1,1] (part_fold (m:=⟨m.C.set i (m.C[i].setR none),m.D,m.most,m.q,m.h⟩) ok' ⟨hl1.trans List.length_set.symm,hl2.trans List.length_set.symm⟩) U<|Zre (.wh 1 (m:=20) U U U .n) hS [0] 1 U U U U
def goM (m:MD) (i:Nat) (pick:Int):MD × Did:=match m.C[i]?,m.D[i]? with
 | some c,some d=>(m.put i (goF c d pick).1 (goF c d pick).2.1 (sendsF m.most m.q (goF c d pick).2.2.2),(goF c d pick).2.2.1)
 | _,_=>(m,did0)
theorem c92 (k b i:Nat) (pick:Int) (m:MD) (hi:i<m.C.length) (hp : -9223372036854775808≤pick∧pick≤9223372036854775807) (hk:k≤1000000):Sp Tryz.prog 92 [pt b,.int .i64 (i:Int),.int .i64 pick] [.hp (partC k b m),spC] fun K=>K (.returned (.agg (didE.arr (goM m i pick).2))) [.hp (partC k b (goM m i pick).1),spC]:=by
 refine Zen Tryz.func92 U U U fun e X Φ hS=>Zoc 0 part_op U<|fun ok A cap B capb bn bh cb kb hl=>?_
 obtain ⟨hl1,hl2⟩:=hl
 have hd:=ok.d
 have hci:=gE (l:=cb) (k:=i) (by omega)
 have hki:=gE (l:=kb) (k:=i) (by omega)
 have hCi:=gE hi
 have hDi:=gE (l:=m.D) (k:=i) (by omega)
 have hz:=zip_at hci hCi
 have hz2:=zip_at hki hDi
 have hzl:i<(cb.zip m.C).length:=(List.getElem?_eq_some_iff.1 hz).1
 have hzl2:i<(kb.zip m.D).length:=(List.getElem?_eq_some_iff.1 hz2).1
 have hic:i<cb.length:=by omega
 have hik:i<kb.length:=by omega
 rw [show goM m i pick=(m.put i (goF m.C[i] m.D[i] pick).1 (goF m.C[i] m.D[i] pick).2.1 (sendsF m.most m.q (goF m.C[i] m.D[i] pick).2.2.2),(goF m.C[i] m.D[i] pick).2.2.1) by unfold goM;rw [hCi,hDi]] at hS
 refine Zoc 3 (cors_op hz) U<|Zsr<|Ze (eal z53) fun b6=>Zw<|Znq ?_
 refine Zoc 6 (cacs_op hz2) U ?_
 refine Zhd [0,2,8] U U<|Zht 0 U (ym U)<|Zht 1 U (yn U)<|Zht 2 U (yf 0 U)<|Zht 3 U (yd 3 U U U)<|Zht 4 U (ym U)<|Zht 5 U (yea 4 own.rd U U U (by first | assumption | omega) U Tryz.underlying105 U)<|Zht 6 U (yec (m:=0) 4 own.rd U (by assumption) U U U)<|Zht 7 U (ym U)<|Zht 8 U (yn U) ?_
 refine Zht 9 U (yf 1 U)<|Zht 10 U (yd 3 U U U)<|Zht 11 U (ym U)<|Zht 12 U (yea 5 own.rd U U U (by first | assumption | omega) U Tryz.underlying106 U)<|Zht 13 U (yec (m:=0) 5 own.rd U (by assumption) U U U)<|Zht 14 U (ym U) ?_
 have okn:(m.put i (goF m.C[i] m.D[i] pick).1 (goF m.C[i] m.D[i] pick).2.1 (sendsF m.most m.q (goF m.C[i] m.D[i] pick).2.2.2)).Ok k:=ok.put i _ _ (sends_len ok.q)
 refine ZH2 15 20 (Zok (c138 cb[i] kb[i] k pick m.C[i] m.D[i] hp hk) [1,0,0] U U U<|fun A' cap'=>Zqh 4 U ?_) (Zoe U (eal z53) fun b7=>Zwh 4 U ?_)
 ·refine Zht 16 U (ym U)<|Zht 17 U (yx U U)<|Zht 18 U (yx U U)<|Zht 19 U (yx U U)<|ZH1 20<|Zoe U (eal z53) fun b7=>Zwh 5 U<|ZH1 21<|Zoe U (esw 0 (m:=20) U U U U U (Enc.len ..) (Enc.allL ..))<|Zwh0 5 U<|Zht 22 U (ya U)<|Zht 23 U (ya U)<|ZHn<|Znx ?_
  refine Zsr<|Zb 2 U ?_
  refine Zk (c139 b bn _ _ _ A' cap' (goF m.C[i] m.D[i] pick).2.2.2 m.most m.q ok.m0 ok.m1 ok.q (Nat.le_trans (go_len ..) (by decide))) [8,1,9] U U<|Zq<|Zns<|Zv (ydw 3 (m:=20) U U (Enc.len ..))<|Ze (esw 8 (m:=20) U U U U U (Enc.len ..) (Enc.allL ..))<|Zw0<|Znr ?_
  refine Zfx [4,8] (cors_in (c:=(goF m.C[i] m.D[i] pick).1) hci hzl) U ?_
  refine Zfx [5,6] (cacs_in (c:=(goF m.C[i] m.D[i] pick).2.1) hki hzl2) U ?_
  refine Zfx [2,7,7,1,0,1,4] (part_put okn hl1 hl2) U<|Zre (.wh 4 (m:=20) U U (Enc.len ..) .n) hS [0,2] 3 U U U U
 ·refine ZH1 15<|Zok (c138 cb[i] kb[i] k pick m.C[i] m.D[i] hp hk) [2,1,1] U U U<|fun A' cap'=>Zqh 5 U<|Zht 16 U (ym U)<|Zht 17 U (yx U U)<|Zht 18 U (yx U U)<|Zht 19 U (yx U U)<|ZH1 21<|Zoe U (esw 4 (m:=20) U U U U U (Enc.len ..) (Enc.allL ..))<|Zwh0 5 U<|Zht 22 U (ya U)<|Zht 23 U (ya U)<|ZHn<|Znx ?_
  refine Zsr<|Zb 2 U ?_
  refine Zk (c139 b bn _ _ _ A' cap' (goF m.C[i] m.D[i] pick).2.2.2 m.most m.q ok.m0 ok.m1 ok.q (Nat.le_trans (go_len ..) (by decide))) [8,0,9] U U<|Zq<|Zns<|Zv (ydw 6 (m:=20) U U (Enc.len ..))<|Ze (esw 8 (m:=20) U U U U U (Enc.len ..) (Enc.allL ..))<|Zw0<|Znr ?_
  refine Zfx [3,8] (cors_in (c:=(goF m.C[i] m.D[i] pick).1) hci hzl) U ?_
  refine Zfx [4,6] (cacs_in (c:=(goF m.C[i] m.D[i] pick).2.1) hki hzl2) U ?_
  refine Zfx [2,7,7,1,0,1,4] (part_put okn hl1 hl2) U<|Zre (.wh 4 (m:=20) U U (Enc.len ..) .n) hS [0,1] 3 U U U U
def MD.putD (m:MD) (i:Nat) (d:CD) (q:List Msg):MD:=⟨m.C,m.D.set i d,m.most,q,m.h⟩
theorem MD.Ok.putD {k k':Nat} {m:MD} (a:m.Ok k) (i:Nat) (d:CD) {q:List Msg} (hq:(q.length:Int)≤m.most):(m.putD i d q).Ok k':=⟨a.n0,a.n1,by show (m.D.set i d).length=m.C.length;rw [List.length_set];exact a.d,a.m0,a.m1,hq⟩
theorem part_putD {k b cap capb bn bh i:Nat} {m:MD} {d:CD} {q:List Msg} {A B:Option Addr} {cb kb:List Nat} (ok:(m.putD i d q).Ok k) (hl1:cb.length=m.C.length) (hl2:kb.length=m.C.length):∀ g,Sep [.blk b 108 [.slice A cb.length cap,.slice B kb.length capb,pt bn,pt bh],.hp (own (ptrE 74) A cap cb),.hp (own (ptrE 80) B capb kb),.hp (corsC k (cb.zip m.C)),.hp (cacsC (kb.zip (m.D.set i d))),.hp (netC bn m.most q),.hp (homC k bh m.h)] g→partC k b (m.putD i d q) g:=part_fold (m:=m.putD i d q) ok ⟨hl1,hl2⟩
def evictM (m:MD) (i:Nat) (pick:Int):MD:=match m.D[i]? with
 | some d=>m.putD i (evictF d pick).1 (sendsF m.most m.q (evictF d pick).2)
 | none=>m
theorem c95 (k b i:Nat) (pick:Int) (m:MD) (hi:i<m.C.length) (hp : -9223372036854775808≤pick∧pick≤9223372036854775807):Sp Tryz.prog 95 [pt b,.int .i64 (i:Int),.int .i64 pick] [.hp (partC k b m)] fun K=>K (.returned (.agg (didE.arr did0))) [.hp (partC k b (evictM m i pick))]:=by
 refine Zen Tryz.func95 U U U fun e X Φ hS=>Zoc 0 part_op U<|fun ok A cap B capb bn bh cb kb hl=>?_
 obtain ⟨hl1,hl2⟩:=hl
 have hd:=ok.d
 have hki:=gE (l:=kb) (k:=i) (by omega)
 have hDi:=gE (l:=m.D) (k:=i) (by omega)
 have hz2:=zip_at hki hDi
 have hzl2:i<(kb.zip m.D).length:=(List.getElem?_eq_some_iff.1 hz2).1
 have hik:i<kb.length:=by omega
 have okn:=ok.putD (k':=k) i (evictF m.D[i] pick).1 (sends_len (l:=(evictF m.D[i] pick).2) ok.q)
 rw [show evictM m i pick=m.putD i (evictF m.D[i] pick).1 (sendsF m.most m.q (evictF m.D[i] pick).2) by unfold evictM;rw [hDi]] at hS
 refine Zoc 4 (cacs_op hz2) U<|Zsr<|Ze (eal z53) fun b6=>Zw<|Zns<|Za 4 [1] U U ?_
 refine Za 2 [3] U U<|Zv (yea 5 own.rd U U U (by first | assumption | omega) U Tryz.underlying106 U)<|Zv (yec (m:=0) 5 own.rd U (by assumption) U U U)<|Zm U ?_
 refine Zk (c144 kb[i] m.D[i] pick hp) [1] U U<|fun A_1=>fun cap_1=>Zq ?_
 refine Zk (c139 b bn _ _ _ A_1 cap_1 (evictF m.D[i] pick).2 m.most m.q ok.m0 ok.m1 ok.q (Nat.le_trans (evict_len ..) (by decide))) [4,0,6] U U<|Zq<|Zns<|Zv (yb l53 U)<|Ze (esw 4 (m:=20) U U U U U U U)<|Zw0<|Znr ?_
 refine Zfx [3,4] (cacs_in (c:=(evictF m.D[i] pick).1) hki hzl2) U ?_
 refine Zfx [1,4,4,4,0,1,2] (part_putD okn hl1 hl2) U<|Zre (.wh 2 (m:=20) U U U .n) hS [0] 2 U U U U
theorem r191 (p q:Value):Ct Tryz.prog 191 [p,q] .returning .returning [] []:=by
 refine ZenS Tryz.func191 U U U U U U (fun _ _=>U) (.inl ⟨U,U,U⟩) fun e X c₀ cs=>?_
 refine Zbl<|Zsr<|Zv (yii Tryz.underlying20 U)<|Zn<|Zct U<|Zrg<|Zy U<|Znl<|Zxn ?_
 refine ZeS [] 0 (fun w' hp=>⟨U,U,hp⟩) U U
theorem p191 (b b' t t':Nat) (c:Int) (v v':Value):Ct Tryz.prog 191 [pt b,pt b'] (pa (.iface 308 (.agg #[.int .i64 c])) false) (pa (.iface 308 (.agg #[.int .i64 c])) true) [.blk b t [v],.blk b' t' [v']] [.blk b t [.slice none 0 0],.blk b' t' [.int .i64 c]]:=by
 refine ZenS Tryz.func191 U U U U U U (fun _ _=>U) (.inr ⟨U,U⟩) fun e X c₀ cs=>?_
 refine Zbl<|Zsr<|Zv (yin Tryz.underlying20 U)<|Zn<|Zcf U<|Zsr<|Zv (yta Tryz.underlying308 U U)<|Zb 2 U ?_
 refine Zn<|Zct U<|Zsr<|Ze (eal z308) fun b3=>Zw<|Ze (esw 0 (m:=1) U U U U U U U)<|Zw0<|Zn ?_
 refine Zhd [1,1] U U<|Zht 0 U (yf 0 U)<|Zht 1 U (yd 0 U U U)<|ZH1 2<|Zoe U (es 0 U U U U U)<|Zwh0 2 U<|ZH1 3<|Zoe U (es 1 U U U U U)<|Zwh0 2 U<|ZHn<|Zxn ?_
 refine ZeS [0,0] 1 (fun w' hp=>⟨U,U,hp⟩) U U
theorem hom_mono {k b:Nat} {h:HD}:∀ g,Sep [.hp (homC k b h)] g→homC (k+1) b h g:=fun g hs=>by
 obtain ⟨h1,h2,hle,_,_,⟨ok,bi,r,es,hk,hp⟩,_⟩:=hs
 exact ⟨ok.mono (Nat.le_succ k),bi,r,es,hk,hp.up hle⟩
theorem c151' (k b n:Nat) (i:Int) (hi:i=(n:Int)) (h:HD) (hn:n<h.E.length) (hk2:k≤1000000):Sp Tryz.prog 151 [pt b,.int .u32 i] [.hp (homC k b h)] fun K=>∀ A cap,K (.returned (.agg ((entOf h.E n).cs (.slice A (entOf h.E n).q.length cap)).toArray)) [.hp (own msgE A cap (entOf h.E n).q),.hp (homC k b h)]:=by
 subst hi
 exact c151 k b n h hn hk2
theorem ents_put {E:List Ent} {es:List (Nat × Nat)} {n:Nat} {i:Int} (hi:i=(n:Int)) (hn:n<E.length) (hk:KOk E es) (b':Nat) (d:Ent):∃ es',ups i (pt b') (mp es)=mp es'∧KOk (E.set n d) es'∧∀ h,Sep [.hp (entC b' d),.hp (entsC E es)] h→entsC (E.set n d) es' h:=by
 subst hi
 by_cases hin:n∈keys es
 ·obtain ⟨a,b,c,rfl,ha,hc⟩:=keys_split hk.nd hin
  exact ⟨a++(n,b')::c,ups_mid ha hc,hk.upd,ents_upd hn ha hc⟩
 ·exact ⟨(n,b')::es,ups_no hin,hk.put hn hin,ents_new hn hin⟩
theorem c142 (k b:Nat) (h:HD) (m:Msg) (hk2:k≤1000):Sp Tryz.prog 142 [pt b,.agg (msgE.arr m)] [.hp (homC k b h)] fun K=>∀ A cap,K (.returned (.tuple #[.slice A (takeH h m).2.1.length cap,.int .i64 (takeH h m).2.2])) [.hp (own msgE A cap (takeH h m).2.1),.hp (homC (k+1) b (takeH h m).1)]:=by
 have hn:=m.hn
 refine ZenD Tryz.func142 U U U fun e X Φ hS=>?_
 refine Zsr<|Ze (ebxE U) fun b3=>Zw<|Ze (eal z112) fun b4=>Zw<|Ze (eal z34) fun b5=>Zw<|Znq<|Zbl<|Zsr<|Zm U ?_
 refine Zk (c62 ..) [3] U U<|Zq<|Zy U<|Zn<|Zcf U<|Zsr<|Zv (ydw 3 (m:=20) U U (Enc.len ..))<|Zk (c190 ..) [] U U<|Zq ?_
 refine Zb 2 U<|Zgs U U (fun h15=>?_) (fun h15=>?_)
 refine Zu' U U (dT h15) U<|Zu' U U (dT h15) U<|Zu' U U (dT h15) U<|Zv (ypt' U (dT h15) U)<|Zy U<|Zn<|Zct U<|Zsr<|Ze (es 2 U U U U U)<|Zw0 ?_
 refine Ze (es 1 U U U U U)<|Zw0<|Znr<|Zr2<|Zr1 ?_
 rotate_left
 refine Zg' U U (dF h15)<|Zv (yf 2 U)<|Zg' U U (dF h15)<|Zv (yd 3 U U U)<|Zg' U U (dF h15)<|Zv (yne U U)<|Zv (ypf' U (dF h15) U)<|Zy U<|Zn ?_
 refine Zif U (fun h11=>?_) (fun h11=>?_)
 refine Zsr<|Ze (es 2 U U U U U)<|Zw0<|Ze (es 1 U U U U U)<|Zw0<|Znr<|Zr2<|Zr1 ?_
 rotate_left
 refine Zsq ?_
 rotate_left
 ·rw [show takeH h m=(h,[],2) from if_pos (.inl h15)] at hS
  refine Zfx [0] (hom_mono (k:=k) (b:=b) (h:=h)) U ?_
  refine Zix (fun _ hs=>sep_nil (E:=msgE) hs)<|ZreD (.c 3 U U U (.c 2 U U U .n)) (hS _ _) [0,0] 3 U U U U
 ·rw [show takeH h m=(h,[],2) from if_pos (.inr h11)] at hS
  refine Zfx [0] (hom_mono (k:=k) (b:=b) (h:=h)) U ?_
  refine Zix (fun _ hs=>sep_nil (E:=msgE) hs)<|ZreD (.c 3 U U U (.c 2 U U U .n)) (hS _ _) [0,0] 3 U U U U
 ·refine Zhd [0] U U<|Zht 0 U (yf 3 U)<|Zht 1 U (yd 2 U U U)<|Zht 2 U (ycv Tryz.underlying40 Tryz.underlying2 U (i64w U (by omega)))<|Zht 3 U (ym U)<|ZH1 4<|Zok (c150 ..) [0] U U U<|Zqh 1 U<|Zht 5 U (yge U U)<|Zht 6 U (ya U)<|ZHn ?_
  refine Znx<|Zif U (fun h20=>?_) (fun h20=>?_)
  refine Zsr<|Ze (es 2 U U U U U)<|Zw0<|Ze (es 1 U U U U U)<|Zw0<|Znr<|Zr2<|Zr1 ?_
  rotate_left
  refine Zsk<|Zxn<|Zxs<|Zv (yfn U U)<|Zdv U U<|Zns<|Zm U ?_
  refine Za 2 [3,3] U U ?_
  rotate_left
  ·rw [show takeH h m=(h,[],4) from (if_neg (fun x=>x.elim h15 h11)).trans (if_pos h20)] at hS
   refine Zfx [0] (hom_mono (k:=k) (b:=b) (h:=h)) U ?_
   refine Zix (fun _ hs=>sep_nil (E:=msgE) hs)<|ZreD (.c 3 U U U (.c 2 U U U .n)) (hS _ _) [0,0] 3 U U U U
  ·have hj:m.line=((m.line.toNat:Nat):Int):=by omega
   have he:m.line.toNat<h.E.length:=by omega
   have hk0:k≤1000000:=by omega
   have h0:¬ (chk m≠0∨m.dst≠4):=fun x=>x.elim h15 h11
   have hT:takeH h m=_:=(if_neg h0).trans (if_neg h20)
   have hkd:(m.kind=1∨m.kind=2∨m.kind=3∨m.kind=11∨m.kind=12∨m.kind=13)∧0≤m.src∧m.src<4:=by
    have hd:m.dst=4:=by simpa using h11
    have hc:goodMsg m=true:=by
     cases hg:goodMsg m with
     | true=>rfl
     | false=>exact absurd (show chk m≠0 by simp [chk,hg]) h15
    simp [goodMsg,homeK,cacheK,isCache,hd] at hc
    omega
   obtain ⟨hkd,s0,s4⟩:=hkd
   refine Zk (c151' k b m.line.toNat m.line hj h he hk0) [0] U U<|fun A=>fun cap=>Zq<|Ze (eal z165) fun b6=>Zw<|Ze (esw 0 (m:=11) U U U U U U U)<|Zw0<|Zns<|Zm U ?_
   refine Za 2 [3,5] U U<|Zv (yb l313 U)<|Ze (ebx U) fun b36=>Zw<|Zy U<|Zns<|Ze (emk .i64) fun r37=>Zw<|Zm U ?_
   refine Zv (yfn U U)<|Ze (ein 0 U U U U U U Tryz.underlying315 Tryz.underlying114)<|Zw0<|Zm U<|Zv (yfn U U)<|Ze (ein 0 U U U U U U Tryz.underlying315 Tryz.underlying114)<|Zw0<|Zm U<|Zv (yfn U U)<|Ze (ein 0 U U U U U U Tryz.underlying315 Tryz.underlying114)<|Zw0<|Zm U<|Zv (yfn U U) ?_
   refine Ze (ein 0 U U U U U U Tryz.underlying315 Tryz.underlying114)<|Zw0<|Zm U<|Zv (yfn U U)<|Ze (ein 0 U U U U U U Tryz.underlying315 Tryz.underlying114)<|Zw0<|Zm U<|Zv (yfn U U)<|Ze (ein 0 U U U U U U Tryz.underlying315 Tryz.underlying114)<|Zw0<|Za 3 [0,7] U U ?_
   refine Zol 4 hom_op U<|fun ok bi r kE hK=>?_
   have okB:Byt h.bs m.line:=⟨ok.r,ok.l,hn.1,by rw [← ok.e];exact he⟩
   refine Zim (fun _ hs=>sep_nil (E:=msgE) hs) ?_
   refine Zfl [6,6,0,5,0,0] (work_fold (bw:=b36) (be:=b6) (bh:=b) (bi:=bi) (r:=r) (bs:=h.bs) (n:=m.line) (d:=entOf h.E m.line.toNat) (out:=[]) okB) U ?_
   have hew:=ok.w _ he
   have hq:=hew.l
   rcases hkd with hk | hk | hk | hk | hk | hk
   ·have hr:RqOk (m.line.toNat:Int) m:=⟨by omega,s0,s4,hj⟩
    rw [hk]
    refine Zv (ylk 3 U U U Tryz.underlying315 Tryz.underlying114 zv314)<|Zv (ydw 6 (m:=20) U U (Enc.len ..)) ?_
    refine Zkv (c192 b36 b bi r m (entOf h.E m.line.toNat) [] h.bs (by omega) s0 s4 (by decide) (by omega)) [0] U U U U<|Zq<|Znq ?_
    have f1:EW (k+1) (m.line.toNat:Int) (reqF h.bs (entOf h.E m.line.toNat) m).1:=hew.req hr
    have f2:(reqF h.bs (entOf h.E m.line.toNat) m).2.1.length=h.bs.length:=req_bl okB rfl
    have f3:takeH h m=putH h m (reqF h.bs (entOf h.E m.line.toNat) m):=hT.trans ((if_neg (by omega)).trans ((if_neg (by omega)).trans (if_neg (by omega))))
    rw [f3] at hS
    dsimp only [putH] at hS
    generalize reqF h.bs (entOf h.E m.line.toNat) m=x at f1 f2 hS ⊢
    refine Zoc 0 work_op U<|fun okx be' A' cap' Aq' cq'=>?_
    obtain ⟨kE',e1,e2,e3⟩:=ents_put hj he hK be' x.1
    have okN:HOk (k+1) ⟨x.2.1,h.E.set m.line.toNat x.1⟩:=ok.put he (by rw [← hj];exact okx) f2 f1
    refine Zhd [6] U U<|Zht 0 U (ym U)<|Zht 1 U (yn U)<|Zht 2 U (yf 1 U)<|Zht 3 U (yd 4 U U U)<|Zht 4 U (yf 3 U)<|Zht 5 U (yd 10 U U U)<|Zht 6 U (ym U)<|Zht 7 U (yn U)<|Zht 8 U (yf 1 U) ?_
    refine Zht 9 U (yd 0 U U U)<|ZH1 10<|Zoe U (emu 0 U U U U U Tryz.underlying156 Tryz.underlying40)<|Zwh0 1 U<|ZHn<|Zxs<|Za 5 [0,0,1] U U ?_
    refine Ze (es 10 U U U U U)<|Zw0<|Ze (es 9 U U U U U)<|Zw0<|Znr ?_
    rw [e1,List.nil_append]
    refine Zfx [2,3] (ent_fold (b:=be') (d:=x.1)) U ?_
    refine Zfx [0,5] e3 U ?_
    refine Zfx [4,4,1,0] (hom_fold (k:=k+1) (h:=⟨x.2.1,h.E.set m.line.toNat x.1⟩) okN e2) U ?_
    refine ZrD (r191 _ _) [] U (.c 5 U U U (.c 4 U U U .n)) (hS _ _) [2,0] 5 U U U
   ·have hr:RqOk (m.line.toNat:Int) m:=⟨by omega,s0,s4,hj⟩
    rw [hk]
    refine Zv (ylk 3 U U U Tryz.underlying315 Tryz.underlying114 zv314)<|Zv (ydw 6 (m:=20) U U (Enc.len ..)) ?_
    refine Zkv (c192 b36 b bi r m (entOf h.E m.line.toNat) [] h.bs (by omega) s0 s4 (by decide) (by omega)) [0] U U U U<|Zq<|Znq ?_
    have f1:EW (k+1) (m.line.toNat:Int) (reqF h.bs (entOf h.E m.line.toNat) m).1:=hew.req hr
    have f2:(reqF h.bs (entOf h.E m.line.toNat) m).2.1.length=h.bs.length:=req_bl okB rfl
    have f3:takeH h m=putH h m (reqF h.bs (entOf h.E m.line.toNat) m):=hT.trans ((if_neg (by omega)).trans ((if_neg (by omega)).trans (if_neg (by omega))))
    rw [f3] at hS
    dsimp only [putH] at hS
    generalize reqF h.bs (entOf h.E m.line.toNat) m=x at f1 f2 hS ⊢
    refine Zoc 0 work_op U<|fun okx be' A' cap' Aq' cq'=>?_
    obtain ⟨kE',e1,e2,e3⟩:=ents_put hj he hK be' x.1
    have okN:HOk (k+1) ⟨x.2.1,h.E.set m.line.toNat x.1⟩:=ok.put he (by rw [← hj];exact okx) f2 f1
    refine Zhd [6] U U<|Zht 0 U (ym U)<|Zht 1 U (yn U)<|Zht 2 U (yf 1 U)<|Zht 3 U (yd 4 U U U)<|Zht 4 U (yf 3 U)<|Zht 5 U (yd 10 U U U)<|Zht 6 U (ym U)<|Zht 7 U (yn U)<|Zht 8 U (yf 1 U) ?_
    refine Zht 9 U (yd 0 U U U)<|ZH1 10<|Zoe U (emu 0 U U U U U Tryz.underlying156 Tryz.underlying40)<|Zwh0 1 U<|ZHn<|Zxs<|Za 5 [0,0,1] U U ?_
    refine Ze (es 10 U U U U U)<|Zw0<|Ze (es 9 U U U U U)<|Zw0<|Znr ?_
    rw [e1,List.nil_append]
    refine Zfx [2,3] (ent_fold (b:=be') (d:=x.1)) U ?_
    refine Zfx [0,5] e3 U ?_
    refine Zfx [4,4,1,0] (hom_fold (k:=k+1) (h:=⟨x.2.1,h.E.set m.line.toNat x.1⟩) okN e2) U ?_
    refine ZrD (r191 _ _) [] U (.c 5 U U U (.c 4 U U U .n)) (hS _ _) [2,0] 5 U U U
   ·have hr:RqOk (m.line.toNat:Int) m:=⟨by omega,s0,s4,hj⟩
    rw [hk]
    refine Zv (ylk 3 U U U Tryz.underlying315 Tryz.underlying114 zv314)<|Zv (ydw 6 (m:=20) U U (Enc.len ..)) ?_
    refine Zkv (c192 b36 b bi r m (entOf h.E m.line.toNat) [] h.bs (by omega) s0 s4 (by decide) (by omega)) [0] U U U U<|Zq<|Znq ?_
    have f1:EW (k+1) (m.line.toNat:Int) (reqF h.bs (entOf h.E m.line.toNat) m).1:=hew.req hr
    have f2:(reqF h.bs (entOf h.E m.line.toNat) m).2.1.length=h.bs.length:=req_bl okB rfl
    have f3:takeH h m=putH h m (reqF h.bs (entOf h.E m.line.toNat) m):=hT.trans ((if_neg (by omega)).trans ((if_neg (by omega)).trans (if_neg (by omega))))
    rw [f3] at hS
    dsimp only [putH] at hS
    generalize reqF h.bs (entOf h.E m.line.toNat) m=x at f1 f2 hS ⊢
    refine Zoc 0 work_op U<|fun okx be' A' cap' Aq' cq'=>?_
    obtain ⟨kE',e1,e2,e3⟩:=ents_put hj he hK be' x.1
    have okN:HOk (k+1) ⟨x.2.1,h.E.set m.line.toNat x.1⟩:=ok.put he (by rw [← hj];exact okx) f2 f1
    refine Zhd [6] U U<|Zht 0 U (ym U)<|Zht 1 U (yn U)<|Zht 2 U (yf 1 U)<|Zht 3 U (yd 4 U U U)<|Zht 4 U (yf 3 U)<|Zht 5 U (yd 10 U U U)<|Zht 6 U (ym U)<|Zht 7 U (yn U)<|Zht 8 U (yf 1 U) ?_
    refine Zht 9 U (yd 0 U U U)<|ZH1 10<|Zoe U (emu 0 U U U U U Tryz.underlying156 Tryz.underlying40)<|Zwh0 1 U<|ZHn<|Zxs<|Za 5 [0,0,1] U U ?_
    refine Ze (es 10 U U U U U)<|Zw0<|Ze (es 9 U U U U U)<|Zw0<|Znr ?_
    rw [e1,List.nil_append]
    refine Zfx [2,3] (ent_fold (b:=be') (d:=x.1)) U ?_
    refine Zfx [0,5] e3 U ?_
    refine Zfx [4,4,1,0] (hom_fold (k:=k+1) (h:=⟨x.2.1,h.E.set m.line.toNat x.1⟩) okN e2) U ?_
    refine ZrD (r191 _ _) [] U (.c 5 U U U (.c 4 U U U .n)) (hS _ _) [2,0] 5 U U U
   ·rw [hk]
    refine Zv (ylk 3 U U U Tryz.underlying315 Tryz.underlying114 zv314)<|Zv (ydw 6 (m:=20) U U (Enc.len ..)) ?_
    refine Zkv (c193 b36 b bi r m (entOf h.E m.line.toNat) [] h.bs s0 s4 hew.a (by decide)) [0] U U U U<|⟨?_,?_⟩
    refine fun a=>Zq <| Znl <| Znx <| Zsq ?_
    rotate_left
    refine fun a=>Zqp <| Zp1 ?_
    rotate_left
    ·skip
     have f1:EW (k+1) (m.line.toNat:Int) (backH h.bs (entOf h.E m.line.toNat) m).1:=hew.back.mono (Nat.le_succ k)
     have f2:(backH h.bs (entOf h.E m.line.toNat) m).2.1.length=h.bs.length:=back_bl okB rfl
     have f3:takeH h m=putH h m (backH h.bs (entOf h.E m.line.toNat) m):=hT.trans ((if_pos hk).trans (if_pos a))
     rw [f3] at hS
     dsimp only [putH] at hS
     generalize backH h.bs (entOf h.E m.line.toNat) m=x at f1 f2 hS ⊢
     refine Zoc 0 work_op U<|fun okx be' A' cap' Aq' cq'=>?_
     obtain ⟨kE',e1,e2,e3⟩:=ents_put hj he hK be' x.1
     have okN:HOk (k+1) ⟨x.2.1,h.E.set m.line.toNat x.1⟩:=ok.put he (by rw [← hj];exact okx) f2 f1
     refine Zhd [6] U U<|Zht 0 U (ym U)<|Zht 1 U (yn U)<|Zht 2 U (yf 1 U)<|Zht 3 U (yd 4 U U U)<|Zht 4 U (yf 3 U)<|Zht 5 U (yd 10 U U U)<|Zht 6 U (ym U)<|Zht 7 U (yn U)<|Zht 8 U (yf 1 U) ?_
     refine Zht 9 U (yd 0 U U U)<|ZH1 10<|Zoe U (emu 0 U U U U U Tryz.underlying156 Tryz.underlying40)<|Zwh0 1 U<|ZHn<|Zxs<|Za 5 [0,0,1] U U ?_
     refine Ze (es 10 U U U U U)<|Zw0<|Ze (es 9 U U U U U)<|Zw0<|Znr ?_
     rw [e1,List.nil_append]
     refine Zfx [2,3] (ent_fold (b:=be') (d:=x.1)) U ?_
     refine Zfx [0,5] e3 U ?_
     refine Zfx [4,4,1,0] (hom_fold (k:=k+1) (h:=⟨x.2.1,h.E.set m.line.toNat x.1⟩) okN e2) U ?_
     refine ZrD (r191 _ _) [] U (.c 5 U U U (.c 4 U U U .n)) (hS _ _) [2,0] 5 U U U
    ·skip
     rw [show takeH h m=(h,[],220) from hT.trans ((if_pos hk).trans (if_neg (by rw [a];decide)))] at hS
     refine Zox 0 work_op U<|fun okx be' A' cap' Aq' cq'=>?_
     refine Zfx [4,4,4,4] (hom_fold (k:=k) (h:=h) ok hK) U ?_
     refine Zfx [0] (hom_mono (k:=k) (b:=b) (h:=h)) U ?_
     refine Zix (fun _ hs=>sep_nil (E:=msgE) hs) ?_
     refine ZpD (p191 b4 b5 _ _ _ _ _) [8,7] U (.c 0 U U U (.c 1 U U U .n)) (hS none 0) [2,2] 8 U U U
   ·rw [hk]
    refine Zv (ylk 3 U U U Tryz.underlying315 Tryz.underlying114 zv314)<|Zv (ydw 6 (m:=20) U U (Enc.len ..)) ?_
    refine Zkv (c194 b36 b bi r m (entOf h.E m.line.toNat) [] h.bs s0 s4 hew.w (by decide)) [0] U U U U<|⟨?_,?_⟩
    refine fun a=>Zq <| Znl <| Znx <| Zsq ?_
    rotate_left
    refine fun a=>Zqp <| Zp1 ?_
    rotate_left
    ·skip
     have f1:EW (k+1) (m.line.toNat:Int) (ackH h.bs (entOf h.E m.line.toNat) m).1:=hew.ack.mono (Nat.le_succ k)
     have f2:(ackH h.bs (entOf h.E m.line.toNat) m).2.1.length=h.bs.length:=by rw [ack_bl]
     have f3:takeH h m=putH h m (ackH h.bs (entOf h.E m.line.toNat) m):=hT.trans ((if_neg (by omega)).trans ((if_pos hk).trans (if_pos a)))
     rw [f3] at hS
     dsimp only [putH] at hS
     generalize ackH h.bs (entOf h.E m.line.toNat) m=x at f1 f2 hS ⊢
     refine Zoc 0 work_op U<|fun okx be' A' cap' Aq' cq'=>?_
     obtain ⟨kE',e1,e2,e3⟩:=ents_put hj he hK be' x.1
     have okN:HOk (k+1) ⟨x.2.1,h.E.set m.line.toNat x.1⟩:=ok.put he (by rw [← hj];exact okx) f2 f1
     refine Zhd [6] U U<|Zht 0 U (ym U)<|Zht 1 U (yn U)<|Zht 2 U (yf 1 U)<|Zht 3 U (yd 4 U U U)<|Zht 4 U (yf 3 U)<|Zht 5 U (yd 10 U U U)<|Zht 6 U (ym U)<|Zht 7 U (yn U)<|Zht 8 U (yf 1 U) ?_
     refine Zht 9 U (yd 0 U U U)<|ZH1 10<|Zoe U (emu 0 U U U U U Tryz.underlying156 Tryz.underlying40)<|Zwh0 1 U<|ZHn<|Zxs<|Za 5 [0,0,1] U U ?_
     refine Ze (es 10 U U U U U)<|Zw0<|Ze (es 9 U U U U U)<|Zw0<|Znr ?_
     rw [e1,List.nil_append]
     refine Zfx [2,3] (ent_fold (b:=be') (d:=x.1)) U ?_
     refine Zfx [0,5] e3 U ?_
     refine Zfx [4,4,1,0] (hom_fold (k:=k+1) (h:=⟨x.2.1,h.E.set m.line.toNat x.1⟩) okN e2) U ?_
     refine ZrD (r191 _ _) [] U (.c 5 U U U (.c 4 U U U .n)) (hS _ _) [2,0] 5 U U U
    ·skip
     rw [show takeH h m=(h,[],220) from hT.trans ((if_neg (by omega)).trans ((if_pos hk).trans (if_neg (by rw [a];decide))))] at hS
     refine Zox 0 work_op U<|fun okx be' A' cap' Aq' cq'=>?_
     refine Zfx [4,4,4,4] (hom_fold (k:=k) (h:=h) ok hK) U ?_
     refine Zfx [0] (hom_mono (k:=k) (b:=b) (h:=h)) U ?_
     refine Zix (fun _ hs=>sep_nil (E:=msgE) hs) ?_
     refine ZpD (p191 b4 b5 _ _ _ _ _) [8,7] U (.c 0 U U U (.c 1 U U U .n)) (hS none 0) [2,2] 8 U U U
   ·rw [hk]
    refine Zv (ylk 3 U U U Tryz.underlying315 Tryz.underlying114 zv314)<|Zv (ydw 6 (m:=20) U U (Enc.len ..)) ?_
    refine Zkv (c195 b36 b bi r m.line m (entOf h.E m.line.toNat) [] h.bs (fun x hx=>⟨(hew.q x hx).k,(hew.q x hx).s0,(hew.q x hx).s4,(hew.q x hx).l.trans hj.symm⟩) (by show 0+_≤_;omega)) [0] U U U U<|⟨?_,?_⟩
    refine fun a=>Zq <| Znl <| Znx <| Zsq ?_
    rotate_left
    refine fun a=>Zqp <| Zp1 ?_
    rotate_left
    ·skip
     have f1:EW (k+1) (m.line.toNat:Int) (drainF (entOf h.E m.line.toNat).q h.bs (entOf h.E m.line.toNat).fre).1:=(EW.drain _ _ _ hew.fre hew.q hew.l).mono (Nat.le_succ k)
     have f2:(drainF (entOf h.E m.line.toNat).q h.bs (entOf h.E m.line.toNat).fre).2.1.length=h.bs.length:=drain_bl _ _ _ (by rw [← hj];exact okB) hew.q
     have f3:takeH h m=putH h m (drainF (entOf h.E m.line.toNat).q h.bs (entOf h.E m.line.toNat).fre):=hT.trans ((if_neg (by omega)).trans ((if_neg (by omega)).trans ((if_pos hk).trans (if_pos a))))
     rw [f3] at hS
     dsimp only [putH] at hS
     generalize drainF (entOf h.E m.line.toNat).q h.bs (entOf h.E m.line.toNat).fre=x at f1 f2 hS ⊢
     refine Zoc 0 work_op U<|fun okx be' A' cap' Aq' cq'=>?_
     obtain ⟨kE',e1,e2,e3⟩:=ents_put hj he hK be' x.1
     have okN:HOk (k+1) ⟨x.2.1,h.E.set m.line.toNat x.1⟩:=ok.put he (by rw [← hj];exact okx) f2 f1
     refine Zhd [6] U U<|Zht 0 U (ym U)<|Zht 1 U (yn U)<|Zht 2 U (yf 1 U)<|Zht 3 U (yd 4 U U U)<|Zht 4 U (yf 3 U)<|Zht 5 U (yd 10 U U U)<|Zht 6 U (ym U)<|Zht 7 U (yn U)<|Zht 8 U (yf 1 U) ?_
     refine Zht 9 U (yd 0 U U U)<|ZH1 10<|Zoe U (emu 0 U U U U U Tryz.underlying156 Tryz.underlying40)<|Zwh0 1 U<|ZHn<|Zxs<|Za 5 [0,0,1] U U ?_
     refine Ze (es 10 U U U U U)<|Zw0<|Ze (es 9 U U U U U)<|Zw0<|Znr ?_
     rw [e1,List.nil_append]
     refine Zfx [2,3] (ent_fold (b:=be') (d:=x.1)) U ?_
     refine Zfx [0,5] e3 U ?_
     refine Zfx [4,4,1,0] (hom_fold (k:=k+1) (h:=⟨x.2.1,h.E.set m.line.toNat x.1⟩) okN e2) U ?_
     refine ZrD (r191 _ _) [] U (.c 5 U U U (.c 4 U U U .n)) (hS _ _) [2,0] 5 U U U
    ·skip
     rw [show takeH h m=(h,[],220) from hT.trans ((if_neg (by omega)).trans ((if_neg (by omega)).trans ((if_pos hk).trans (if_neg (by rw [a];decide)))))] at hS
     refine Zox 0 work_op U<|fun okx be' A' cap' Aq' cq'=>?_
     refine Zfx [4,4,4,4] (hom_fold (k:=k) (h:=h) ok hK) U ?_
     refine Zfx [0] (hom_mono (k:=k) (b:=b) (h:=h)) U ?_
     refine Zix (fun _ hs=>sep_nil (E:=msgE) hs) ?_
     refine ZpD (p191 b4 b5 _ _ _ _ _) [8,7] U (.c 0 U U U (.c 1 U U U .n)) (hS none 0) [2,2] 8 U U U
def MD.putH (m:MD) (h:HD) (q:List Msg):MD:=⟨m.C,m.D,m.most,q,h⟩
def takM (m:MD) (q:List Msg) (x:Msg):MD:=
 if x.dst≠4 then (match m.D[x.dst.toNat]? with
  | some d=>m.putD x.dst.toNat (takeF d x).1 (sendsF m.most q (takeF d x).2.1)
  | none=>m)
 else m.putH (takeH m.h x).1 (sendsF m.most q (takeH m.h x).2.1)
def delivM (m:MD) (pick:Int):MD:=match m.q[pickAt pick m.q.length]? with
 | some x=>takM m (delF m.q (pickAt pick m.q.length)) x
 | none=>m
theorem deliv_at {m:MD} {pick:Int} {x:Msg} (a:m.q[pickAt pick m.q.length]? = some x):delivM m pick=takM m (delF m.q (pickAt pick m.q.length)) x:=by
 unfold delivM
 rw [a]
theorem MD.Ok.putH {k k':Nat} {m:MD} (a:m.Ok k) (h:HD) {q:List Msg} (hq:(q.length:Int)≤m.most):(m.putH h q).Ok k':=⟨a.n0,a.n1,a.d,a.m0,a.m1,hq⟩
theorem part_putH {k b cap capb bn bh:Nat} {m:MD} {h:HD} {q:List Msg} {A B:Option Addr} {cb kb:List Nat} (ok:(m.putH h q).Ok k) (hl1:cb.length=m.C.length) (hl2:kb.length=m.C.length):∀ g,Sep [.blk b 108 [.slice A cb.length cap,.slice B kb.length capb,pt bn,pt bh],.hp (own (ptrE 74) A cap cb),.hp (own (ptrE 80) B capb kb),.hp (corsC k (cb.zip m.C)),.hp (cacsC (kb.zip m.D)),.hp (netC bn m.most q),.hp (homC k bh h)] g→partC k b (m.putH h q) g:=part_fold (m:=m.putH h q) ok ⟨hl1,hl2⟩
theorem c94 (k b:Nat) (n0 pick:Int) (m:MD) (hp : -9223372036854775808≤pick∧pick≤9223372036854775807) (hk:k≤1000) (hn:∀ x∈m.q,x.dst=4∨(0≤x.dst∧x.dst<(m.C.length:Int))):Sp Tryz.prog 94 [pt b,.int .i64 n0,.int .i64 pick] [.hp (partC k b m)] fun K=>K (.returned (.agg (didE.arr did0))) [.hp (partC (k+1) b (delivM m pick))]:=by
 refine Zen Tryz.func94 U U U fun e X Φ hS=>Zoc 0 part_op U<|fun ok A cap B capb bn bh cb kb hl=>?_
 obtain ⟨hl1,hl2⟩:=hl
 have hm0:m.most≠0:=by have:=ok.m0;omega
 have hql:m.q.length≤1048576:=by have:=ok.q;have:=ok.m1;omega
 refine Zsr<|Ze (eal z53) fun b6=>Zw<|Zns<|Za 5 [2,1] U U ?_
 refine Zk (c141 bn m.most pick m.q hm0 hql hp) [6] U U<|⟨?_,?_⟩
 refine fun a=>Zq <| Zv (ym rfl) <| Zv (yx rfl rfl) <| Zv (yx rfl rfl) <| Ze (eal z117) fun b7=>Zw <| Ze (esw 0 (m:=20) rfl rfl rfl rfl rfl (Enc.len ..) (Enc.allL ..)) <| Zw0 <| Zv (ya rfl) <| Znl <| Znx ?_
 refine Zsq<|Zsr<|Zb 2 U<|Zn<|Zct U<|Zsr<|Zv (yb l53 U)<|Ze (esw 2 (m:=20) U U U U U U U)<|Zw0 ?_
 refine Znr<|Zr1 ?_
 rotate_left
 refine fun m_1=>fun a=>Zq <| Zv (ym rfl) <| Zv (yx rfl rfl) <| Zv (yx rfl rfl) <| Ze (eal z117) fun b7=>Zw <| Ze (esw 0 (m:=20) rfl rfl rfl rfl rfl (Enc.len ..) (Enc.allL ..)) <| Zw0 <| Zv (ya rfl) <| Znl ?_
 refine Zxq<|Zsr<|Zb 2 U<|Zn<|Zcf U<|Zkn ?_
 refine Zsr<|Za 4 [3,3] U U<|Zv (yfn U U)<|Zy U<|Znq ?_
 refine Zsr<|Za 3 [2,0] U U<|Zn<|Zif U (fun h31=>?_) (fun h31=>?_)
 refine Zhd [] U U<|Zht 0 U (ym U)<|Zht 1 U (yn U)<|Zht 2 U (yf 1 U)<|Zht 3 U (yd 3 U U U)<|Zht 4 U (yf 2 U)<|Zht 5 U (yd 0 U U U) ?_
 rotate_left
 refine Zks<|Zm U<|Zv (ydw 0 (m:=20) U U (Enc.len ..)) ?_
 rotate_left
 ·rw [show delivM m pick=m by unfold delivM;rw [show m.q[pickAt pick m.q.length]? = none by rw [a];rfl]] at hS
  refine Zfx [1] (net_eq (q':=m.q) a.symm) U ?_
  refine Zfx [6] (cors_mono (k':=k+1) (Nat.le_succ k)) U ?_
  refine Zfx [8] (hom_mono (k:=k)) U ?_
  refine Zfx [5,5,5,1,4,1,0] (part_fold (k:=k+1) (m:=m) ok.mono ⟨hl1,hl2⟩) U<|Zre (.wh 2 (m:=20) U U U .n) hS [0] 2 U U U U
 ·have hmem:m_1∈m.q:=List.mem_of_getElem? a
  have hdl:=del_len a
  have hd:=ok.d
  have hj:m_1.dst=((m_1.dst.toNat:Nat):Int):=by have:=hn m_1 hmem;omega
  have hjl:m_1.dst.toNat<kb.length:=by have:=hn m_1 hmem;omega
  have hki:=gE hjl
  have hDi:=gE (l:=m.D) (k:=m_1.dst.toNat) (by omega)
  have hz2:=zip_at hki hDi
  have hzl2:m_1.dst.toNat<(kb.zip m.D).length:=(List.getElem?_eq_some_iff.1 hz2).1
  rw [show delivM m pick=m.putD m_1.dst.toNat (takeF m.D[m_1.dst.toNat] m_1).1 (sendsF m.most (delF m.q (pickAt pick m.q.length)) (takeF m.D[m_1.dst.toNat] m_1).2.1) from (deliv_at a).trans ((if_pos h31).trans (by rw [hDi]))] at hS
  have hq1:((delF m.q (pickAt pick m.q.length)).length:Int)≤m.most:=by have:=ok.q;omega
  have okn:=ok.putD (k':=k+1) m_1.dst.toNat (takeF m.D[m_1.dst.toNat] m_1).1 (sends_len (l:=(takeF m.D[m_1.dst.toNat] m_1).2.1) hq1)
  refine Zht 6 U (yea 5 own.rd U U (congrArg (fun x=>some (Value.int .i64 x)) hj) hjl U Tryz.underlying106 U)<|Zht 7 U (yec (m:=0) 5 own.rd U (by assumption) U U U)<|Zht 8 U (yfn U U)<|Zht 9 U (ya U)<|ZHn<|Zxs<|Zm U<|Zv (ydw 0 (m:=20) U U (Enc.len ..)) ?_
  refine Zol 7 (cacs_op hz2) U<|Zkv (c143 ..) [0] U U U U<|fun A_1=>fun cap_1=>Zq<|Zb 5 U ?_
  refine Zns<|Zb 2 U ?_
  refine Zk (c139 b bn _ _ _ A_1 cap_1 (takeF m.D[m_1.dst.toNat] m_1).2.1 m.most (delF m.q (pickAt pick m.q.length)) ok.m0 ok.m1 hq1 (Nat.le_trans (take_len ..) (by decide))) [6,0,3] U U<|Zq<|Zns<|Zv (yb l53 U)<|Ze (esw 6 (m:=20) U U U U U U U)<|Zw0<|Znr ?_
  refine Zfx [3,3] (cacs_in (c:=(takeF m.D[m_1.dst.toNat] m_1).1) hki hzl2) U ?_
  refine Zfx [8] (cors_mono (k':=k+1) (Nat.le_succ k)) U ?_
  refine Zfx [9] (hom_mono (k:=k)) U ?_
  refine Zfx [3,7,7,1,1,2,0] (part_putD (k:=k+1) okn hl1 hl2) U<|Zre (.wh 3 (m:=20) U U U .n) hS [0] 3 U U U U
 ·have hdl:=del_len a
  rw [show delivM m pick=m.putH (takeH m.h m_1).1 (sendsF m.most (delF m.q (pickAt pick m.q.length)) (takeH m.h m_1).2.1) from (deliv_at a).trans (if_neg h31)] at hS
  have hq1:((delF m.q (pickAt pick m.q.length)).length:Int)≤m.most:=by have:=ok.q;omega
  have okn:=ok.putH (k':=k+1) (takeH m.h m_1).1 (sends_len (l:=(takeH m.h m_1).2.1) hq1)
  refine Zol 8 hom_ok U<|fun hok=>?_
  have htl:(takeH m.h m_1).2.1.length≤1048576:=Nat.le_trans (takeH_len hok m_1) (by omega)
  refine Zkv (c142 k bh m.h m_1 hk) [0] U U U U<|fun A_1=>fun cap_1=>Zq<|Zb 5 U<|Znl ?_
  refine Zxs<|Zb 2 U ?_
  refine Zk (c139 b bn _ _ _ A_1 cap_1 (takeH m.h m_1).2.1 m.most (delF m.q (pickAt pick m.q.length)) ok.m0 ok.m1 hq1 htl) [5,0,2] U U<|Zq<|Zns<|Zv (yb l53 U)<|Ze (esw 5 (m:=20) U U U U U U U)<|Zw0<|Znr ?_
  refine Zfx [8] (cors_mono (k':=k+1) (Nat.le_succ k)) U ?_
  refine Zfx [1,6,6,0,5,1,1] (part_putH (k:=k+1) okn hl1 hl2) U<|Zre (.wh 3 (m:=20) U U U .n) hS [0] 3 U U U U
def drainM (m:MD) (i:Nat) (pick:Int):MD × Did:=match m.C[i]?,m.D[i]? with
 | some c,some d=>(m.put i (drainR c d pick).1 (drainR c d pick).2.1 (sendsF m.most m.q (msOf (drainR c d pick).2.2)),didOf c.h.id (drainR c d pick).2.2)
 | _,_=>(m,did0)
theorem c93 (k b i:Nat) (pick:Int) (m:MD) (hi:i<m.C.length) (hp : -9223372036854775808≤pick∧pick≤9223372036854775807) (hk:k≤1000000):Sp Tryz.prog 93 [pt b,.int .i64 (i:Int),.int .i64 pick] [.hp (partC k b m)] fun K=>K (.returned (.agg (didE.arr (drainM m i pick).2))) [.hp (partC (k+1) b (drainM m i pick).1)]:=by
 refine Zen Tryz.func93 U U U fun e X Φ hS=>Zoc 0 part_op U<|fun ok A cap B capb bn bh cb kb hl=>?_
 obtain ⟨hl1,hl2⟩:=hl
 have hd:=ok.d
 have hci:=gE (l:=cb) (k:=i) (by omega)
 have hki:=gE (l:=kb) (k:=i) (by omega)
 have hCi:=gE hi
 have hDi:=gE (l:=m.D) (k:=i) (by omega)
 have hz:=zip_at hci hCi
 have hz2:=zip_at hki hDi
 have hzl:i<(cb.zip m.C).length:=(List.getElem?_eq_some_iff.1 hz).1
 have hzl2:i<(kb.zip m.D).length:=(List.getElem?_eq_some_iff.1 hz2).1
 have hic:i<cb.length:=by omega
 have hik:i<kb.length:=by omega
 rw [show drainM m i pick=(m.put i (drainR m.C[i] m.D[i] pick).1 (drainR m.C[i] m.D[i] pick).2.1 (sendsF m.most m.q (msOf (drainR m.C[i] m.D[i] pick).2.2)),(didOf m.C[i].h.id (drainR m.C[i] m.D[i] pick).2.2)) by unfold drainM;rw [hCi,hDi]] at hS
 refine Zoc 3 (cors_op hz) U<|Zsr<|Ze (eal z53) fun b6=>Zw<|Znq ?_
 refine Zoc 6 (cacs_op hz2) U ?_
 refine Zhd [0,2] U U<|Zht 0 U (ym U)<|Zht 1 U (yn U)<|Zht 2 U (yf 0 U)<|Zht 3 U (yd 3 U U U)<|Zht 4 U (ym U)<|Zht 5 U (yea 4 own.rd U U U (by first | assumption | omega) U Tryz.underlying105 U)<|Zht 6 U (yec (m:=0) 4 own.rd U (by assumption) U U U)<|Zht 7 U (ym U)<|Zht 8 U (yn U) ?_
 refine Zht 9 U (yf 1 U)<|Zht 10 U (yd 3 U U U)<|Zht 11 U (ym U)<|Zht 12 U (yea 5 own.rd U U U (by first | assumption | omega) U Tryz.underlying106 U)<|Zht 13 U (yec (m:=0) 5 own.rd U (by assumption) U U U)<|Zht 14 U (ym U) ?_
 have okn:(m.put i (drainR m.C[i] m.D[i] pick).1 (drainR m.C[i] m.D[i] pick).2.1 (sendsF m.most m.q (msOf (drainR m.C[i] m.D[i] pick).2.2))).Ok (k+1):=ok.put i _ _ (sends_len ok.q)
 refine ZH2 15 20 (Zok (c140 cb[i] kb[i] k pick m.C[i] m.D[i] hp hk) [1,0] U U U<|fun A' cap'=>Zqh 3 U ?_) (Zoe U (eal z53) fun b7=>Zwh 3 U ?_)
 ·refine Zht 16 U (ym U)<|Zht 17 U (yx U U)<|Zht 18 U (yx U U)<|Zht 19 U (yx U U)<|ZH1 20<|Zoe U (eal z53) fun b7=>Zwh 4 U<|ZH1 21<|Zoe U (esw 0 (m:=20) U U U U U (Enc.len ..) (Enc.allL ..))<|Zwh0 4 U<|Zht 22 U (ya U)<|Zht 23 U (ya U)<|ZHn<|Znx ?_
  refine Zsr<|Zb 2 U ?_
  refine Zk (c139 b bn _ _ _ A' cap' (msOf (drainR m.C[i] m.D[i] pick).2.2) m.most m.q ok.m0 ok.m1 ok.q (Nat.le_trans (drain_len ..) (by decide))) [7,1,8] U U<|Zq<|Zns<|Zv (ydw 3 (m:=20) U U (Enc.len ..))<|Ze (esw 7 (m:=20) U U U U U (Enc.len ..) (Enc.allL ..))<|Zw0<|Znr ?_
  refine Zfx [8] (cors_mono (k':=k+1) (Nat.le_succ k)) U ?_
  refine Zfx [5,0] (cors_in (k:=k+1) (c:=(drainR m.C[i] m.D[i] pick).1) hci hzl) U ?_
  refine Zfx [5,5] (cacs_in (c:=(drainR m.C[i] m.D[i] pick).2.1) hki hzl2) U ?_
  refine Zfx [9] (hom_mono (k:=k)) U ?_
  refine Zfx [3,7,7,2,1,2,0] (part_put (k:=k+1) okn hl1 hl2) U<|Zre (.wh 3 (m:=20) U U (Enc.len ..) .n) hS [0] 3 U U U U
 ·refine ZH1 15<|Zok (c140 cb[i] kb[i] k pick m.C[i] m.D[i] hp hk) [2,1] U U U<|fun A' cap'=>Zqh 4 U<|Zht 16 U (ym U)<|Zht 17 U (yx U U)<|Zht 18 U (yx U U)<|Zht 19 U (yx U U)<|ZH1 21<|Zoe U (esw 3 (m:=20) U U U U U (Enc.len ..) (Enc.allL ..))<|Zwh0 4 U<|Zht 22 U (ya U)<|Zht 23 U (ya U)<|ZHn<|Znx ?_
  refine Zsr<|Zb 2 U ?_
  refine Zk (c139 b bn _ _ _ A' cap' (msOf (drainR m.C[i] m.D[i] pick).2.2) m.most m.q ok.m0 ok.m1 ok.q (Nat.le_trans (drain_len ..) (by decide))) [7,0,8] U U<|Zq<|Zns<|Zv (ydw 5 (m:=20) U U (Enc.len ..))<|Ze (esw 7 (m:=20) U U U U U (Enc.len ..) (Enc.allL ..))<|Zw0<|Znr ?_
  refine Zfx [8] (cors_mono (k':=k+1) (Nat.le_succ k)) U ?_
  refine Zfx [4,0] (cors_in (k:=k+1) (c:=(drainR m.C[i] m.D[i] pick).1) hci hzl) U ?_
  refine Zfx [4,5] (cacs_in (c:=(drainR m.C[i] m.D[i] pick).2.1) hki hzl2) U ?_
  refine Zfx [9] (hom_mono (k:=k)) U ?_
  refine Zfx [3,7,7,2,1,2,0] (part_put (k:=k+1) okn hl1 hl2) U<|Zre (.wh 3 (m:=20) U U (Enc.len ..) .n) hS [0] 3 U U U U
def machC (k b:Nat) (m:MD):HP:=fun h=>∃ bp,Sep [.blk b 104 [pt bp],.hp (partC k bp m)] h
theorem mach_op {k b:Nat} {m:MD}:Op_ (machC k b m) fun K=>∀ bp,K [.blk b 104 [pt bp],.hp (partC k bp m)] := .mk fun G K h hh=>by
 obtain ⟨bp,hs⟩:=hh
 exact ⟨_,K bp,hs⟩
theorem mach_fold {k b bp:Nat} {m:MD}:∀ h,Sep [.blk b 104 [pt bp],.hp (partC k bp m)] h→machC k b m h:=fun _ hs=>⟨bp,hs⟩
theorem c35 (k b:Nat) (m:MD):Sp Tryz.prog 35 [pt b] [.hp (machC k b m)] fun K=>K (.returned (.bool false)) [.hp (machC k b m)]:=by
 refine Zen Tryz.func35 U U U fun e X Φ hS=>Zoc 0 mach_op U<|fun bp=>?_
 refine Zsr<|Zy U<|Zns<|Zm U<|Zv (ypeq U U U)<|Zb 2 U ?_
 refine Za 3 [0,0] U U<|Zg U U<|Zv (ypeq U U U)<|Zb 2 U ?_
 refine Znr ?_
 refine Zfx [0,0] (mach_fold (m:=m)) U<|Zre (.t U .n) hS [0] 0 U U U U
theorem c43 (k b:Nat) (m:MD):Sp Tryz.prog 43 [pt b] [.hp (machC k b m)] fun K=>∀ A cap,K (.returned (.slice A m.q.length cap)) [.hp (own msgE A cap m.q),.hp (machC k b m)]:=by
 refine Zen Tryz.func43 U U U fun e X Φ hS=>Zsr<|Zy U<|Znqs<|Zm U<|Zk (c35 ..) [0] U U<|Zq ?_
 refine Zn<|Zcf U<|Zks<|Za 3 [0] U U ?_
 refine Zol 0 mach_op U<|fun bp=>Zv (yd 0 U U U)<|Za 2 [2] U U ?_
 refine Zol 1 part_op U<|fun ok A cap B capb bn bh cb kb hl=>Zv (yd 0 U U U) ?_
 have hm0:m.most≠0:=by have:=ok.m0;omega
 have hql:m.q.length≤1048576:=by have:=ok.q;have:=ok.m1;omega
 refine Zol 5 net_op U<|fun An capn=>Zol 1 own_len U<|fun hA hcp hcm=>Zk (c80 ..) [1,0] U U<|fun A'=>fun cap'=>Zq<|Zy U<|Znr ?_
 refine Zfx [1,1] (net_fold (b:=bn) (q:=m.q) U) U ?_
 refine Zfx [2,2,2,2,2,0,1] (part_fold (m:=m) ok hl) U ?_
 refine Zfx [2,0] (mach_fold (m:=m)) U<|Zre (.t U .n) (hS _ _) [1,0] 0 U U U U
theorem c50 (bp:Nat):Sp Tryz.prog 50 [pt bp] [] fun K=>K (.returned (.agg #[.nilFunc,.func (.func 92) #[pt bp] #[],.func (.func 93) #[pt bp] #[],.func (.func 94) #[pt bp] #[],.func (.func 95) #[pt bp] #[],.func (.func 96) #[pt bp] #[]])) []:=by
 refine Zen Tryz.func50 U U U fun e X Φ hS=>Zsr<|Ze (eal z130) fun b2=>Zw<|Zns<|Zm U<|Zv (yfn U U)<|Zm U<|Zv (yfn U U) ?_
 refine Zm U<|Zv (yfn U U)<|Zm U<|Zv (yfn U U)<|Zm U<|Zv (yfn U U)<|Zv (yb l130 U)<|Ze (esw 0 (m:=6) U U U U U U U)<|Zw0<|Zn ?_
 refine Zrt<|Zre (.wh 0 (m:=6) U U U .n) hS [] 1 U U U U
theorem part_mono {k b:Nat} {m:MD}:∀ g,Sep [.hp (partC k b m)] g→partC (k+1) b m g:=fun g hs=>by
 obtain ⟨h1,h2,hle,_,_,⟨ok,A,cap,B,capb,bn,bh,cb,kb,hl,hp⟩,_⟩:=hs
 have hp:=hp.up hle
 refine ⟨ok.mono,A,cap,B,capb,bn,bh,cb,kb,hl,?_⟩
 refine hp.mapTl fun _ hp=>hp.mapTl fun _ hp=>hp.mapTl fun _ hp=>?_
 have hp:=hp.hd (q := .hp (corsC (k+1) (cb.zip m.C))) fun _ hh=>cors_mono (Nat.le_succ k) _ (sep_hp1 hh)
 refine hp.mapTl fun _ hp=>hp.mapTl fun _ hp=>hp.mapTl fun _ hp=>?_
 exact hp.hd (q := .hp (homC (k+1) bh m.h)) fun _ hh=>hom_mono _ (sep_hp1 hh)
theorem Sp_fold {P:Program} {f:Nat} {args:List Value} {p:HP} {R L:List Ck} {S:Out→Prop} (c:Sp P f args (.hp p::L) S) (hf:∀ h,Sep R h→p h):Sp P f args (R++L) S:=⟨fun e X w Φ hp hS=>c.run e X w Φ (hp.imp fun h hs=>by
 rw [List.append_assoc] at hs
 exact hs.unflat.hd (q := .hp p) hf) hS⟩
theorem Sp_fr1 {P:Program} {f:Nat} {args:List Value} {p p':HP} {v:Value} {q:Ck} (c:Sp P f args [.hp p] fun K=>K (.returned v) [.hp p']):Sp P f args [.hp p,q] fun K=>K (.returned v) [.hp p',q]:=⟨fun e X w Φ hp hS=>c.run e (q::X) w Φ hp hS⟩
theorem Sp_mo {P:Program} {f:Nat} {args:List Value} {p p':HP} {v:Value} {L M:List Ck} (c:Sp P f args L fun K=>K (.returned v) (.hp p::M)) (h:∀ g,Sep [.hp p] g→p' g):Sp P f args L fun K=>K (.returned v) (.hp p'::M):=⟨fun e X w Φ hp hS=>c.run e X w Φ hp fun w' hw=>hS w' (hw.imp fun g hs=>hs.hd (q := .hp p') fun g' hp'=>h g' (sep_hp1 hp'))⟩
def stepK (m:MD) (x:Cho):MD × Did:=
 if x.kind=1 then goM m (pickAt x.hart m.C.length) x.pick else if x.kind=2 then drainM m (pickAt x.hart m.C.length) x.pick
 else if x.kind=3 then (delivM m x.pick,did0) else if x.kind=4 then (evictM m (pickAt x.hart m.C.length) x.pick,did0) else (spoilF m (pickAt x.hart m.C.length),did0)
def fnsL (bp:Nat):List Value:=[.nilFunc,.func (.func 92) #[pt bp] #[],.func (.func 93) #[pt bp] #[],.func (.func 94) #[pt bp] #[],.func (.func 95) #[pt bp] #[],.func (.func 96) #[pt bp] #[]]
theorem step_fn (k bp:Nat) (m:MD) (x:Cho) (hk:k≤1000) (h1:1≤x.kind) (h5:x.kind≤5) (hp : -9223372036854775808≤x.pick∧x.pick≤9223372036854775807) (hi:pickAt x.hart m.C.length<m.C.length) (hn:∀ y∈m.q,y.dst=4∨(0≤y.dst∧y.dst<(m.C.length:Int))):∃ f,nth (fnsL bp) x.kind.toNat=some (.func (.func f) #[pt bp] #[])∧callOk Tryz.prog f=true∧Sp Tryz.prog f [pt bp,.int .i64 ((pickAt x.hart m.C.length:Nat):Int),.int .i64 x.pick] [.hp (partC k bp m),spC] fun K=>K (.returned (.agg (didE.arr (stepK m x).2))) [.hp (partC (k+1) bp (stepK m x).1),spC]:=by
 obtain ⟨kd,ht,pk'⟩:=x
 have hkd:kd=1∨kd=2∨kd=3∨kd=4∨kd=5:=by
  have h1:1≤kd:=h1
  have h5:kd≤5:=h5
  omega
 rcases hkd with rfl | rfl | rfl | rfl | rfl
 ·exact ⟨92,rfl,by kernel_rfl,Sp_mo (c92 k bp _ pk' m hi hp (by omega)) part_mono⟩
 ·exact ⟨93,rfl,by kernel_rfl,Sp_fr1 (c93 k bp _ pk' m hi hp (by omega))⟩
 ·exact ⟨94,rfl,by kernel_rfl,Sp_fr1 (c94 k bp _ pk' m hp hk hn)⟩
 ·exact ⟨95,rfl,by kernel_rfl,Sp_fr1 (Sp_mo (c95 k bp _ pk' m hi hp) part_mono)⟩
 ·exact ⟨96,rfl,by kernel_rfl,Sp_fr1 (Sp_mo (c96 k bp _ pk' m hi) part_mono)⟩
theorem Zjm {P:Program} {n:Nat} {r:Option Nat} {N:Nat × List Deferred} {T:Tb} {e:World} {Q:Exit→Act→World→Prop} {L:List Ck} {c c':Code} {ι:Type} (Ti:ι→Tb) (Mi:ι→List Ck) (Y:List Ck) (h1:ZC P r n c (Exit.then (Jk Ti (fun i=>Mi i++Y) N e) Q) N T e L) (h2:∀ i,ZC P r n c' Q N (Ti i) e (Mi i++Y)):ZC P r n c (Exit.then (Kc P r n c' Q) Q) N T e L:=fun w hp ok a fr=>by
 refine Code.wpIn_mono ?_ (h1 w hp ok a fr)
 intro ex a' w' he
 cases ex with
 | normal=>
  obtain ⟨j,h3,h4⟩:=he
  exact h2 j w' h4 ok a' h3
 | _=>exact he
def lostL:Nat→List Cor→List CD→List Cor
 | i+1,c::C,d::D=>(if lostB c d then c.setR none else c)::lostL i C D
 | _,C,_=>C
theorem lost_len:∀ (i:Nat) (C:List Cor) (D:List CD),(lostL i C D).length=C.length
 | 0,_,_=>rfl
 | _+1,[],_=>rfl
 | _+1,_::_,[]=>rfl
 | i+1,c::C,d::D=>by simp [lostL,lost_len i C D]
theorem lost_at:∀ {i:Nat} {C:List Cor} {D:List CD} {c:Cor},C[i]? = some c→(lostL i C D)[i]? = some c
 | 0,_,_,_,h=>h
 | _+1,[],_,_,h=>by simp at h
 | _+1,_::_,[],_,h=>h
 | i+1,_::C,_::D,c,h=>by
  simp only [List.getElem?_cons_succ] at h
  simp only [lostL,List.getElem?_cons_succ]
  exact lost_at h
theorem lost_snc:∀ {i:Nat} {C:List Cor} {D:List CD} {c:Cor} {d:CD},C[i]? = some c→D[i]? = some d→(lostL i C D).set i (if lostB c d then c.setR none else c)=lostL (i+1) C D
 | 0,[],_,_,_,h,_=>by simp at h
 | 0,_::_,[],_,_,_,h=>by simp at h
 | 0,_::_,_::_,c,d,h,h'=>by
  simp at h h'
  subst h h'
  rfl
 | _+1,[],_,_,_,h,_=>by simp at h
 | _+1,_::_,[],_,_,_,h=>by simp at h
 | i+1,_::C,_::D,c,d,h,h'=>by
  simp only [List.getElem?_cons_succ] at h h'
  have:=lost_snc (i:=i) h h'
  show _::(lostL i C D).set i _=_::lostL (i+1) C D
  rw [this]
def lostM (m:MD):MD:=⟨lostL m.C.length m.C m.D,m.D,m.most,m.q,m.h⟩
theorem cacs_same {i b:Nat} {cb:List Nat} {l:List CD} {c:CD} (e:cb[i]? = some b) (e':l[i]? = some c) (hi:i<(cb.zip l).length):∀ h,Sep [.hp (cacC b c),.hp (cacsC ((cb.zip l).eraseIdx i))] h→cacsC (cb.zip l) h:=fun h hs=>by
 have:=cacs_in (c:=c) e hi h hs
 rwa [show l.set i c=l from by
  obtain ⟨h1,h2⟩:=List.getElem?_eq_some_iff.1 e'
  rw [← h2]
  exact List.set_getElem_self h1] at this
theorem MD.Ok.lost {k:Nat} {m:MD} (a:m.Ok k):(lostM m).Ok k:=⟨by show 0<(lostL _ _ _).length;rw [lost_len];exact a.n0,by show (lostL _ _ _).length≤4;rw [lost_len];exact a.n1,by show _=(lostL _ _ _).length;rw [lost_len];exact a.d,a.m0,a.m1,a.q⟩
theorem part_lost {k b cap capb bn bh:Nat} {m:MD} {A B:Option Addr} {cb kb:List Nat} (ok:m.Ok k) (hl:cb.length=m.C.length∧kb.length=m.C.length):∀ g,Sep [.blk b 108 [.slice A cb.length cap,.slice B kb.length capb,pt bn,pt bh],.hp (own (ptrE 74) A cap cb),.hp (own (ptrE 80) B capb kb),.hp (corsC k (cb.zip (lostL m.C.length m.C m.D))),.hp (cacsC (kb.zip m.D)),.hp (netC bn m.most m.q),.hp (homC k bh m.h)] g→partC k b (lostM m) g:=part_fold (m:=lostM m) ok.lost (by rw [show (lostM m).C.length=m.C.length from lost_len ..];exact hl)
theorem c16a (k b:Nat) (m:MD) (x:Cho) (hk:k≤1000) (h1:1≤x.kind) (h5:x.kind≤5) (hp : -9223372036854775808≤x.pick∧x.pick≤9223372036854775807) (hh : -9223372036854775808≤x.hart∧x.hart≤9223372036854775807) (hn:∀ y∈m.q,y.dst=4∨(0≤y.dst∧y.dst<(m.C.length:Int))):Sp Tryz.prog 16 [pt b,.agg (choE.arr x)] [.hp (machC k b m),spC] fun K=>K (.returned (.tuple #[.agg (didE.arr (stepK m x).2),.int .i64 0])) [.hp (machC (k+1) b (lostM (stepK m x).1)),spC]:=by
 refine Zen Tryz.func16 U U U fun e X Φ hS=>?_
 refine Zsr<|Ze (ebxE U) fun b3=>Zw<|Ze (eal z53) fun b4=>Zw<|Zy U<|Znq<|Zbl<|Zsr<|Zm U ?_
 refine Zk (c35 ..) [2] U U<|Zq<|Zy U<|Zn<|Zcf U<|Zsr<|Zv (ydw 2 (m:=3) U U (Enc.len ..))<|Zk (c38 ..) [] U U<|Zq ?_
 refine Zb 2 U<|Zn<|Zib U (fun h13=>?_) (fun h13=>?_)
 refine Zsr<|Zv (yb l53 U)<|Ze (esw 1 (m:=20) U U U U U U U)<|Zw0<|Zy U<|Znr<|Zr2<|Zr1 ?_
 rotate_left
 refine Zsk<|Zxn<|Zxq ?_
 rotate_left
 ·exfalso
  simp at h13
  omega
 ·refine Zoc 0 mach_op U<|fun bp=>Zoc 1 part_op U<|fun ok A cap B capb bn bh cb kb hl=>?_
  refine Zjm (ι:=Nat) (fun b6=>[(0,pt b),(4,pt b4),(5,.int .i64 0),(6,pt b6)]) (fun b6=>[.blk b6 53 (didE.cells (stepK m x).2),.hp (partC (k+1) bp (stepK m x).1),.blk b4 53 (didE.cells did0),.blk b 104 [pt bp],spC]) X ?_ fun i=>?_
  rotate_left
  refine Zsq<|Zsr<|Za 6 [0,3,0] U U ?_
  rotate_left
  ·have hcl:0<m.C.length:=ok.n0
   have hcl4:=ok.n1
   obtain ⟨p1,p2,p3,p4⟩:=pick_lt x.hart hcl
   obtain ⟨f,hf,hok,hc⟩:=step_fn k bp m x hk h1 h5 hp p2 hn
   have hc:=Sp_fold (L:=[spC]) hc (part_fold (A:=A) (cap:=cap) (B:=B) (capb:=capb) (bn:=bn) (bh:=bh) ok hl)
   have hkn:x.kind=((x.kind.toNat:Nat):Int):=by omega
   have hkl:Nat.blt x.kind.toNat 6=true:=Nat.ble_eq_true_of_le (show x.kind.toNat+1≤6 by omega)
   have hcb0:0<cb.length:=by omega
   have hcb4:cb.length≤1048576:=by omega
   rw [← hl.1] at hc
   refine Zhd [0,0,0,0,0,0,0,3] U U<|Zht 0 U (ym U)<|Zht 1 U (yn U)<|Zht 2 U (yf 0 U)<|Zht 3 U (yd 0 U U U)<|Zht 5 U (yf 0 U)<|Zht 6 U (yd 2 U U U)<|Zht 8 U (yf 1 U)<|Zht 9 U (yd 2 U U U)<|Zht 10 U (ym U) ?_
   refine Zht 11 U (yn U)<|Zht 12 U (yf 0 U)<|Zht 13 U (yd 0 U U U)<|Zht 14 U (yn U)<|Zht 15 U (yf 0 U)<|Zht 19 U (yf 2 U)<|Zht 20 U (yd 2 U U U) ?_
   refine Zh3 4 16 22 (by kernel_rfl) (Zok (c50 bp) [] U U U<|Zqh 8 U ?_) (Zov U (yd 0 U U U) ?_) (Zoe U (eal z53) fun b6=>Zwh 9 U ?_)
   ·refine Zht 7 U (yix (i:=x.kind.toNat) U (congrArg (fun v=>some (Value.int .i64 v)) hkn) hf Tryz.underlying130 hkl) ?_
    refine ZH2 16 22 (Zov U (yd 0 U U U) ?_) (Zoe U (eal z53) fun b6=>Zwh 9 U ?_)
    ·refine Zht 17 U (sl_of ⟨_,Tryz.underlying105⟩ U) ?_
     refine ZH2 18 22 (Zok (c51 x.hart cb.length hcb0 hcb4 hh) [] U U U<|Zqh 8 U ?_) (Zoe U (eal z53) fun b6=>Zwh 9 U ?_)
     ·refine ZH2 21 22 (Zokv (t':=25) hc [0,0,0,0,0,0,0,0] U U U U U (Zqh 2 U ?_) U hok) (Zoe U (eal z53) fun b6=>Zwh 9 U ?_)
      ·refine Zh1 22 (by kernel_rfl) (Zoe U (eal z53) fun b6=>Zwh 3 U ?_)
       refine ZH1 23<|Zoe U (esw 0 (m:=20) U U U U U (Enc.len ..) (Enc.allL ..))<|Zwh0 3 U<|ZHn ?_
       refine Zjr b6 ⟨U,U,U,U,trivial⟩ [0,0,2,1,0] 1 U U
      ·refine Zh1 21 (by kernel_rfl) (Zokv (t':=25) hc [1,1,1,1,1,1,1,1] U U U U U (Zqh 3 U ?_) U hok)
       refine ZH1 23<|Zoe U (esw 2 (m:=20) U U U U U (Enc.len ..) (Enc.allL ..))<|Zwh0 3 U<|ZHn ?_
       refine Zjr b6 ⟨U,U,U,U,trivial⟩ [2,0,2,1,0] 1 U U
     ·refine Zh1 18 (by kernel_rfl) (Zok (c51 x.hart cb.length hcb0 hcb4 hh) [] U U U<|Zqh 9 U ?_)
      refine Zh1 21 (by kernel_rfl) (Zokv (t':=25) hc [1,1,1,1,1,1,1,1] U U U U U (Zqh 3 U ?_) U hok)
      refine ZH1 23<|Zoe U (esw 2 (m:=20) U U U U U (Enc.len ..) (Enc.allL ..))<|Zwh0 3 U<|ZHn ?_
      refine Zjr b6 ⟨U,U,U,U,trivial⟩ [2,0,2,1,0] 1 U U
    ·refine Zh1 16 (by kernel_rfl) (Zov U (yd 1 U U U) ?_)
     refine Zht 17 U (sl_of ⟨_,Tryz.underlying105⟩ U) ?_
     refine Zh1 18 (by kernel_rfl) (Zok (c51 x.hart cb.length hcb0 hcb4 hh) [] U U U<|Zqh 9 U ?_)
     refine Zh1 21 (by kernel_rfl) (Zokv (t':=25) hc [1,1,1,1,1,1,1,1] U U U U U (Zqh 3 U ?_) U hok)
     refine ZH1 23<|Zoe U (esw 2 (m:=20) U U U U U (Enc.len ..) (Enc.allL ..))<|Zwh0 3 U<|ZHn ?_
     refine Zjr b6 ⟨U,U,U,U,trivial⟩ [2,0,2,1,0] 1 U U
   ·refine Zht 17 U (sl_of ⟨_,Tryz.underlying105⟩ U) ?_
    refine ZH2 4 22 (Zok (c50 bp) [] U U U<|Zqh 8 U ?_) (Zoe U (eal z53) fun b6=>Zwh 9 U ?_)
    ·refine Zht 7 U (yix (i:=x.kind.toNat) U (congrArg (fun v=>some (Value.int .i64 v)) hkn) hf Tryz.underlying130 hkl) ?_
     refine ZH2 18 22 (Zok (c51 x.hart cb.length hcb0 hcb4 hh) [] U U U<|Zqh 8 U ?_) (Zoe U (eal z53) fun b6=>Zwh 9 U ?_)
     ·refine ZH2 21 22 (Zokv (t':=25) hc [0,0,0,0,0,0,0,0] U U U U U (Zqh 2 U ?_) U hok) (Zoe U (eal z53) fun b6=>Zwh 9 U ?_)
      ·refine Zh1 22 (by kernel_rfl) (Zoe U (eal z53) fun b6=>Zwh 3 U ?_)
       refine ZH1 23<|Zoe U (esw 0 (m:=20) U U U U U (Enc.len ..) (Enc.allL ..))<|Zwh0 3 U<|ZHn ?_
       refine Zjr b6 ⟨U,U,U,U,trivial⟩ [0,0,2,1,0] 1 U U
      ·refine Zh1 21 (by kernel_rfl) (Zokv (t':=25) hc [1,1,1,1,1,1,1,1] U U U U U (Zqh 3 U ?_) U hok)
       refine ZH1 23<|Zoe U (esw 2 (m:=20) U U U U U (Enc.len ..) (Enc.allL ..))<|Zwh0 3 U<|ZHn ?_
       refine Zjr b6 ⟨U,U,U,U,trivial⟩ [2,0,2,1,0] 1 U U
     ·refine Zh1 18 (by kernel_rfl) (Zok (c51 x.hart cb.length hcb0 hcb4 hh) [] U U U<|Zqh 9 U ?_)
      refine Zh1 21 (by kernel_rfl) (Zokv (t':=25) hc [1,1,1,1,1,1,1,1] U U U U U (Zqh 3 U ?_) U hok)
      refine ZH1 23<|Zoe U (esw 2 (m:=20) U U U U U (Enc.len ..) (Enc.allL ..))<|Zwh0 3 U<|ZHn ?_
      refine Zjr b6 ⟨U,U,U,U,trivial⟩ [2,0,2,1,0] 1 U U
    ·refine Zh1 4 (by kernel_rfl) (Zok (c50 bp) [] U U U<|Zqh 9 U ?_)
     refine Zht 7 U (yix (i:=x.kind.toNat) U (congrArg (fun v=>some (Value.int .i64 v)) hkn) hf Tryz.underlying130 hkl) ?_
     refine Zh1 18 (by kernel_rfl) (Zok (c51 x.hart cb.length hcb0 hcb4 hh) [] U U U<|Zqh 9 U ?_)
     refine Zh1 21 (by kernel_rfl) (Zokv (t':=25) hc [1,1,1,1,1,1,1,1] U U U U U (Zqh 3 U ?_) U hok)
     refine ZH1 23<|Zoe U (esw 2 (m:=20) U U U U U (Enc.len ..) (Enc.allL ..))<|Zwh0 3 U<|ZHn ?_
     refine Zjr b6 ⟨U,U,U,U,trivial⟩ [2,0,2,1,0] 1 U U
   ·refine ZH2 4 16 (Zok (c50 bp) [] U U U<|Zqh 9 U ?_) (Zov U (yd 1 U U U) ?_)
    ·refine Zht 7 U (yix (i:=x.kind.toNat) U (congrArg (fun v=>some (Value.int .i64 v)) hkn) hf Tryz.underlying130 hkl) ?_
     refine Zh1 16 (by kernel_rfl) (Zov U (yd 1 U U U) ?_)
     refine Zht 17 U (sl_of ⟨_,Tryz.underlying105⟩ U) ?_
     refine Zh1 18 (by kernel_rfl) (Zok (c51 x.hart cb.length hcb0 hcb4 hh) [] U U U<|Zqh 9 U ?_)
     refine Zh1 21 (by kernel_rfl) (Zokv (t':=25) hc [1,1,1,1,1,1,1,1] U U U U U (Zqh 3 U ?_) U hok)
     refine ZH1 23<|Zoe U (esw 2 (m:=20) U U U U U (Enc.len ..) (Enc.allL ..))<|Zwh0 3 U<|ZHn ?_
     refine Zjr b6 ⟨U,U,U,U,trivial⟩ [2,0,2,1,0] 1 U U
    ·refine Zht 17 U (sl_of ⟨_,Tryz.underlying105⟩ U) ?_
     refine Zh1 4 (by kernel_rfl) (Zok (c50 bp) [] U U U<|Zqh 9 U ?_)
     refine Zht 7 U (yix (i:=x.kind.toNat) U (congrArg (fun v=>some (Value.int .i64 v)) hkn) hf Tryz.underlying130 hkl) ?_
     refine Zh1 18 (by kernel_rfl) (Zok (c51 x.hart cb.length hcb0 hcb4 hh) [] U U U<|Zqh 9 U ?_)
     refine Zh1 21 (by kernel_rfl) (Zokv (t':=25) hc [1,1,1,1,1,1,1,1] U U U U U (Zqh 3 U ?_) U hok)
     refine ZH1 23<|Zoe U (esw 2 (m:=20) U U U U U (Enc.len ..) (Enc.allL ..))<|Zwh0 3 U<|ZHn ?_
     refine Zjr b6 ⟨U,U,U,U,trivial⟩ [2,0,2,1,0] 1 U U
  ·generalize stepK m x=y at hS ⊢
   obtain ⟨m1,dd⟩:=y
   dsimp only at hS ⊢
   refine Zol 1 part_op U<|fun ok1 A1 cap1 B1 capb1 bn1 bh1 cb1 kb1 hl1=>Zv (yd 0 U U U)<|Zv (sl_of ⟨_,Tryz.underlying105⟩ U)<|Zm U<|Znb ?_
   have hCl:m1.C.length≤4:=ok1.n1
   have hDl:=ok1.d
   obtain ⟨hl1,hl2⟩:=hl1
   refine Zlq (ι:={ j:Nat // j≤cb1.length }) (fun j=>[(48,.int .i64 (j.1:Int)),(47,.int .i64 (cb1.length:Int)),(46,.slice A1 cb1.length cap1),(0,pt b),(4,pt b4),(5,.int .i64 0),(6,pt i)]) (fun j=>[.hp (corsC (k+1) (cb1.zip (lostL j.1 m1.C m1.D))),.hp (cacsC (kb1.zip m1.D))]) (fun j=>cb1.length-j.1) ⟨0,by omega⟩ ⟨U,U,U,U,U,U,U,trivial⟩ [3,3] U fun j=>Zsr<|Zv (ylt U U)<|Znq<|Zif U (fun h49=>?_) (fun h49=>?_)
   refine Zkn<|Zsq<|Zbl<|Zsr<|Zm U<|Zv (yea 3 own.rd U U U (by first | assumption | omega) U Tryz.underlying105 U)<|Zv (yec (m:=0) 3 own.rd U (gE (by first | assumption | omega)) U U U)<|Zb 2 U ?_
   refine Zn<|Zrg<|Za 7 [0,9,1] U U ?_
   refine Za 2 [2] U U<|Zv (yea 4 own.rd U U U (by first | assumption | omega) U Tryz.underlying106 U)<|Zv (yec (m:=0) 4 own.rd U (gE (by first | assumption | omega)) U U U) ?_
   rotate_left
   refine Zex<|Zxt<|Zxt<|Zxx<|Zxs<|Zv (ydw 7 (m:=20) U U (Enc.len ..))<|Ze (esw 8 (m:=20) U U U U (Enc.len ..) (Enc.len ..) (Enc.allL ..))<|Zw0<|Zy U<|Znl ?_
   refine Zxr ?_
   rotate_left
   ·have hlt:j.1<cb1.length:=by omega
    have hci:=gE hlt
    have hki:=gE (l:=kb1) (k:=j.1) (by omega)
    have hCi:=gE (l:=m1.C) (k:=j.1) (by omega)
    have hDi:=gE (l:=m1.D) (k:=j.1) (by omega)
    have hz1:=zip_at hci (lost_at (D:=m1.D) hCi)
    have hz2:=zip_at hki hDi
    have hzl1:=(List.getElem?_eq_some_iff.1 hz1).1
    have hzl2:=(List.getElem?_eq_some_iff.1 hz2).1
    refine Zol 0 (cors_op hz1) U ?_
    refine Zol 2 (cacs_op hz2) U ?_
    refine Zk (c52 (k+1) cb1[j.1] kb1[j.1] m1.C[j.1] m1.D[j.1]) [2,0] U U<|Zq<|Znl<|Zxn<|Znx<|Zrg<|Zv (yadd U U (i64w U (by omega)))<|Zm U<|Znl ?_
    refine Zfx [0,2] (cors_in (c:=if lostB m1.C[j.1] m1.D[j.1] then m1.C[j.1].setR none else m1.C[j.1]) hci hzl1) U ?_
    rw [lost_snc hCi hDi]
    refine Zfx [1,1] (cacs_same hki hDi hzl2) U ?_
    refine Zlr ⟨j.1+1,by omega⟩ (by show cb1.length-(j.1+1)<cb1.length-j.1;omega) ⟨U,U,U,U,U,U,U,trivial⟩ [1,0] 0 U U
   ·have hj:=j.2
    rw [show j.1=m1.C.length by omega]
    refine Zfx [2,2,2,0,0,0,0] (part_lost (m:=m1) ok1 ⟨hl1,hl2⟩) U ?_
    refine Zfx [3,0] (mach_fold (m:=lostM m1)) U<|Zre (.wh 2 (m:=20) U U (Enc.len ..) (.t U .n)) hS [0,2] 2 U U U U
def MsIn (n:Nat) (y:Msg):Prop:=(y.dst=4∧0≤y.src∧y.src<(n:Int))∨(0≤y.dst∧y.dst<(n:Int))
def SrcIn (n:Nat) (y:Msg):Prop:=0≤y.src∧y.src<(n:Int)
structure EnIn (n:Nat) (d:Ent):Prop where
 o:d.o<(n:Int)
 sh:∀ i:Nat,d.sh.get i=true→i<n
 a0:0≤d.asks
 a1:d.asks<(n:Int)
 q:∀ y∈d.q,SrcIn n y
structure MD.In (m:MD):Prop where
 d:∀ (i:Nat) (d:CD),m.D[i]? = some d→d.id=i
 dl:m.D.length=m.C.length
 n0:0<m.C.length
 q:∀ y∈m.q,MsIn m.C.length y
 e:∀ i:Nat,EnIn m.C.length (entOf m.h.E i)
theorem MD.In.hn {m:MD} (h:m.In):∀ y∈m.q,y.dst=4∨(0≤y.dst∧y.dst<(m.C.length:Int)):=fun y hy=>(h.q y hy).elim (fun h => .inl h.1) .inr
theorem en0 {n:Nat} (h:0<n):EnIn n ent0:=⟨by show (-1:Int)<n;omega,fun i hi=>by
 exfalso
 simp [ent0,sh0,Sh.get] at hi,by decide,by show (0:Int)<n;omega,fun y hy=>by cases hy⟩
theorem get_sh0 (i:Int):sh0.get i=false:=by simp [sh0,Sh.get]
theorem get_set2 {s:Sh} {j i:Int} {x:Bool} (h:(s.set j x).get i=true):s.get i=true∨(i=j∧x=true):=by
  unfold Sh.set at h
  repeat' split at h
  all_goals first
    | exact .inl h
    | (rename_i hj
       subst hj
       unfold Sh.get at h ⊢
       dsimp only at h
       repeat' split at h
       all_goals first
         | exact absurd h (by decide)
         | exact .inr ⟨by assumption,h⟩
         | (left;simp_all))
theorem oth_in {n:Nat} {sh:Sh} {r:Int} (hs:∀ i:Nat,sh.get i=true→i<n):∀ (k:Nat) (x:Int),x∈othK sh r k→0≤x∧x<(n:Int)
 | 0,_,hx=>by cases hx
 | k+1,x,hx=>by
  unfold othK at hx
  split at hx
  ·rename_i h1
   simp only [Bool.and_eq_true] at h1
   rcases List.mem_append.1 hx with h | h
   ·exact oth_in hs k x h
   ·rw [List.mem_singleton] at h
    subst h
    have:=hs k h1.1
    omega
  ·exact oth_in hs k x hx
section
variable {n:Nat} {d:Ent} {bs:List Int} {m:Msg}
theorem EnIn.leave (h:EnIn n d) (r:Int):EnIn n (leaveF d r):=⟨by
 show (if d.o=r then (-1:Int) else d.o)<n
 have:=h.o
 split
 ·omega
 ·exact this,h.sh,h.a0,h.a1,h.q⟩
theorem EnIn.own (h:EnIn n d) {r:Int} (hr:r<(n:Int)):EnIn n (ownF d r):=⟨hr,(fun i hi=>by rw [show (ownF d r).sh=sh0 from rfl,get_sh0] at hi;cases hi),h.a0,h.a1,h.q⟩
theorem EnIn.busy (h:EnIn n d) (hm:SrcIn n m) (w:Int) (t:Bool):EnIn n (busyF d m w t):=⟨h.o,h.sh,hm.1,hm.2,h.q⟩
theorem EnIn.setS (h:EnIn n d) {s:Sh} (hs:∀ i:Nat,s.get i=true→i<n):EnIn n (d.setS s):=⟨h.o,hs,h.a0,h.a1,h.q⟩
theorem EnIn.setW (h:EnIn n d) (w:Int):EnIn n (d.setW w):=⟨h.o,h.sh,h.a0,h.a1,h.q⟩
theorem EnIn.setT (h:EnIn n d) (w:Bool):EnIn n (d.setT w):=⟨h.o,h.sh,h.a0,h.a1,h.q⟩
theorem EnIn.setQ (h:EnIn n d) {q:List Msg} (hq:∀ y∈q,SrcIn n y):EnIn n (d.setQ q):=⟨h.o,h.sh,h.a0,h.a1,hq⟩
theorem EnIn.fre (h:EnIn n d):EnIn n d.fre:=⟨h.o,h.sh,Int.le_refl 0,by show (0:Int)<n;have:=h.a0;have:=h.a1;omega,h.q⟩
theorem EnIn.writeD (h:EnIn n d):EnIn n (writeD d):=(h.own h.a1).setT true
theorem sm_in {kind dst:Int} {b:B16} (h0:0≤dst) (h1:dst<(n:Int)):MsIn n (sendM m kind dst b) := .inr ⟨h0,h1⟩
theorem begin_in (h:EnIn n d) (hm:SrcIn n m):EnIn n (beginF bs d m).1∧∀ y∈(beginF bs d m).2.2,MsIn n y:=by
 have hl:=h.leave m.src
 have one:∀ {kind dst:Int} {b:B16},0≤dst→dst<(n:Int)→∀ y∈[sendM m kind dst b],MsIn n y:=fun h0 h1 y hy=>by
  rw [List.mem_singleton] at hy
  subst hy
  exact sm_in h0 h1
 unfold beginF
 dsimp only
 split
 ·exact ⟨hl,one hm.1 hm.2⟩
 ·split
  ·rename_i ho
   exact ⟨hl.busy hm _ _,one ho hl.o⟩
  ·split
   ·split
    ·exact ⟨(hl.own hm.2).busy hm _ _,one hm.1 hm.2⟩
    ·refine ⟨hl.busy hm _ _,fun y hy=>?_⟩
     obtain ⟨x,hx,rfl⟩:=List.mem_map.1 hy
     obtain ⟨h0,h1⟩:=oth_in hl.sh 4 x hx
     exact sm_in h0 h1
   ·split
    ·exact ⟨(hl.own hm.2).busy hm _ _,one hm.1 hm.2⟩
    ·refine ⟨(hl.setS fun i hi=>?_).busy hm _ _,one hm.1 hm.2⟩
     rcases get_set2 hi with h | ⟨h,_⟩
     ·exact hl.sh i h
     ·have:=hm.2
      omega
theorem drain_in:∀ (q:List Msg) (bs:List Int) (d:Ent),EnIn n d→(∀ y∈q,SrcIn n y)→EnIn n (drainF q bs d).1∧∀ y∈(drainF q bs d).2.2,MsIn n y
 | [],bs,d,h,hq=>⟨h.setQ hq,fun y hy=>by cases hy⟩
 | m::r,bs,d,h,hq=>by
  have hr:∀ y∈r,SrcIn n y:=fun y hy=>hq y (.tail _ hy)
  cases hb:d.busy with
  | true=>
   rw [show drainF (m::r) bs d=(d.setQ (m::r),bs,[]) from if_pos hb]
   exact ⟨h.setQ hq,fun y hy=>by cases hy⟩
  | false=>
   rw [show drainF (m::r) bs d=_ from if_neg (by rw [hb];decide)]
   have h1:=begin_in (bs:=bs) (h.setQ hr) (hq m (.head _))
   have h2:=drain_in r (beginF bs (d.setQ r) m).2.1 (beginF bs (d.setQ r) m).1 h1.1 hr
   exact ⟨h2.1,fun y hy=>(List.mem_append.1 hy).elim (h1.2 y) (h2.2 y)⟩
theorem back_in (h:EnIn n d) (hm:SrcIn n m):EnIn n (backH bs d m).1∧∀ y∈(backH bs d m).2.2,MsIn n y:=by
 have one:∀ {kind:Int} {b:B16},∀ y∈[sendM m kind d.asks b],MsIn n y:=fun y hy=>by
  rw [List.mem_singleton] at hy
  subst hy
  exact sm_in h.a0 h.a1
 unfold backH
 dsimp only
 split
 ·exact ⟨(h.setW 0).writeD,one⟩
 ·refine ⟨((((h.setW 0).own (r := -1) (by have:=h.a0;have:=h.a1;omega)).setS fun i hi=>?_).setT true),one⟩
  rcases get_set2 hi with h1 | ⟨h1,_⟩
  ·rcases get_set2 h1 with h2 | ⟨h2,_⟩
   ·rw [get_sh0] at h2;cases h2
   ·have:=hm.2;omega
  ·have:=h.a1;omega
theorem ack_in (h:EnIn n d) (hm:SrcIn n m):EnIn n (ackH bs d m).1∧∀ y∈(ackH bs d m).2.2,MsIn n y:=by
 have h1:EnIn n ((d.setS (d.sh.set m.src false)).setW (d.waits-1)):=(h.setS fun i hi=>by
  rcases get_set2 hi with h1 | ⟨_,h1⟩
  ·exact h.sh i h1
  ·cases h1).setW _
 unfold ackH
 dsimp only
 split
 ·refine ⟨h1.writeD,fun y hy=>?_⟩
  rw [List.mem_singleton] at hy
  subst hy
  exact sm_in h.a0 h.a1
 ·exact ⟨h1,fun y hy=>by cases hy⟩
theorem req_in (h:EnIn n d) (hm:SrcIn n m):EnIn n (reqF bs d m).1∧∀ y∈(reqF bs d m).2.2,MsIn n y:=by
 unfold reqF
 split
 ·exact ⟨h.setQ fun y hy=>(List.mem_append.1 hy).elim (h.q y) fun hy=>by rw [List.mem_singleton] at hy;subst hy;exact hm,fun y hy=>by cases hy⟩
 ·exact begin_in h hm
theorem ent_set2 {E:List Ent} (h:∀ i:Nat,EnIn n (entOf E i)) (j:Nat) {d:Ent} (hd:EnIn n d):∀ i:Nat,EnIn n (entOf (E.set j d) i):=fun i=>by
 unfold entOf
 rw [List.getD_eq_getElem?_getD,List.getElem?_set]
 have:=h i
 unfold entOf at this
 rw [List.getD_eq_getElem?_getD] at this
 split
 ·split
  ·exact hd
  ·rename_i h1 h2
   subst h1
   rw [List.getElem?_eq_none (by omega)] at this
   exact this
 ·exact this
theorem take_in {h:HD} {y:Msg} (he:∀ i:Nat,EnIn n (entOf h.E i)) (hy:MsIn n y) (hd:y.dst=4) (h4:n≤4):(∀ i:Nat,EnIn n (entOf (takeH h y).1.E i))∧∀ z∈(takeH h y).2.1,MsIn n z:=by
 have hs:SrcIn n y:=by rcases hy with h | h;exact h.2;omega
 have no:∀ {x:Int},(∀ i:Nat,EnIn n (entOf (h,([]:List Msg),x).1.E i))∧∀ z∈(h,([]:List Msg),x).2.1,MsIn n z:=⟨he,fun z hz=>by cases hz⟩
 have yes:∀ {x:Ent × List Int × List Msg},EnIn n x.1∧(∀ z∈x.2.2,MsIn n z)→(∀ i:Nat,EnIn n (entOf (putH h y x).1.E i))∧∀ z∈(putH h y x).2.1,MsIn n z:=fun hx=>⟨ent_set2 he _ hx.1,hx.2⟩
 have e0:=he y.line.toNat
 unfold takeH
 repeat' split
 ·exact no
 ·exact no
 ·exact yes (back_in e0 hs)
 ·exact no
 ·exact yes (ack_in e0 hs)
 ·exact no
 ·exact yes (drain_in _ _ _ e0.fre e0.q)
 ·exact no
 ·exact yes (req_in e0 hs)
end
def DIn (d d':CD) (l:List Msg):Prop:=d'.id=d.id∧∀ y∈l,y.dst=4∧y.src=d.id
theorem DIn.no (d:CD):DIn d d []:=⟨rfl,fun y hy=>by cases hy⟩
theorem DIn.one {d d':CD} {m:Msg} (h:d'.id=d.id) (h1:m.dst=4) (h2:m.src=d.id):DIn d d' [m]:=⟨h,fun y hy=>by rw [List.mem_singleton] at hy;subst hy;exact ⟨h1,h2⟩⟩
theorem out_in (d:CD) (x:Ln):DIn d (outF d x).1 (outF d x).2.1:=by
 unfold outF
 split
 ·exact ⟨rfl,fun y hy=>by cases hy⟩
 ·split
  ·exact .no d
  ·exact .one rfl rfl rfl
theorem ask_in (d:CD) (line:Int) (h:U32 line) (wr:Bool) (pick:Int):DIn d (askF d line h wr pick).1 (askF d line h wr pick).2.1:=by
 unfold askF
 split
 ·exact .no d
 ·split
  ·exact .no d
  ·split
   ·exact .one rfl rfl rfl
   ·rename_i x _
    split
    ·have:=out_in d x
     refine ⟨this.1,fun y hy=>?_⟩
     rcases List.mem_append.1 hy with h | h
     ·exact this.2 y h
     ·rw [List.mem_singleton] at h;subst h;exact ⟨rfl,rfl⟩
    ·exact .no d
theorem askA_in (d:CD) (a:Acc) (wr:Bool) (pick:Int):DIn d (askA d a wr pick).1 (askA d a wr pick).2.1:=by
 unfold askA
 split
 ·exact ask_in ..
 ·exact .no d
theorem evict_in (d:CD) (pick:Int):DIn d (evictF d pick).1 (evictF d pick).2:=by
 unfold evictF
 split
 ·exact .no d
 ·exact out_in ..
theorem write_in (d:CD) (a w v:Int):(writeF d a w v).1.id=d.id:=by
 unfold writeF
 repeat' split
 all_goals rfl
theorem backG_in {d d':CD} {m:Msg} {bs:B16} (h:backG d m=some (d',bs)):d'.id=d.id:=by
 unfold backG at h
 split at h
 ·cases h;rfl
 ·split at h
  ·cases h;rfl
  ·cases h
theorem takeF_in (d:CD) (m:Msg):DIn d (takeF d m).1 (takeF d m).2.1:=by
 unfold takeF
 split
 ·exact .no d
 ·split
  ·split
   ·exact .one rfl rfl rfl
   ·exact .no d
  ·split
   ·split
    ·rename_i hb
     exact .one (backG_in hb) rfl rfl
    ·exact .no d
   ·split
    ·split
     ·exact .no d
     ·exact .one rfl rfl rfl
    ·split
     ·exact ⟨rfl,fun y hy=>by cases hy⟩
     ·exact .no d
abbrev RIn (d:CD) (r:ARes):Prop:=DIn d r.2.1 (msOf r.2.2)
theorem in_done (c:Cor) {d d':CD} (w:Int) (x:Ans) (o:Int) (h:d'.id=d.id):RIn d (doneR c d' w x o):=⟨h,fun y hy=>by cases hy⟩
theorem in_ask (c:Cor) (d:CD) (a:Acc) (wr:Bool) (pick:Int):RIn d (askR c d a wr pick):=askA_in d a wr pick
theorem in_nil (c:Cor) (d:CD):RIn d (failR c d []) := .no d
theorem act_in (c:Cor) (d:CD) (w pick:Int) (a:Acc):RIn d (actR c d w pick a):=by
 unfold actR
 repeat' split
 ·unfold loadR cachR;repeat' split
  all_goals first | exact in_nil .. | exact in_done _ _ _ _ rfl | exact in_ask ..
 ·unfold storeR;repeat' split
  all_goals first | exact in_nil .. | exact in_done _ _ _ _ rfl | exact in_ask ..
 ·unfold lrR;repeat' split
  all_goals first | exact in_nil .. | exact in_done _ _ _ _ rfl | exact in_ask ..
 ·unfold scR;repeat' split
  all_goals first | exact in_nil .. | exact in_done _ _ _ _ rfl | exact in_done _ _ _ _ (write_in ..) | exact in_ask ..
 ·unfold amoR;repeat' split
  all_goals first | exact in_nil .. | exact in_done _ _ _ _ rfl | exact in_done _ _ _ _ (write_in ..) | exact in_ask ..
 ·unfold fenceR;repeat' split
  all_goals first | exact in_nil .. | exact in_done _ _ _ _ rfl | exact in_ask ..
 ·exact in_done _ _ _ _ rfl
theorem goF_in (c:Cor) (d:CD) (pick:Int):DIn d (goF c d pick).2.1 (goF c d pick).2.2.2:=by
 unfold goF
 repeat' split
 ·exact .no d
 ·exact .no d
 ·exact act_in ..
theorem drainR_in (c:Cor) (d:CD) (pick:Int):RIn d (drainR c d pick):=by
 unfold drainR
 repeat' split
 ·exact in_nil ..
 ·have h:=askA_in (writeF d (hdS c.B).addr (hdS c.B).width (hdS c.B).value).1 ⟨0,(hdS c.B).addr,0,0,0,false,false⟩ true pick
  have hw:=write_in d (hdS c.B).addr (hdS c.B).width (hdS c.B).value
  exact ⟨h.1.trans hw,fun y hy=>⟨(h.2 y hy).1,(h.2 y hy).2.trans hw⟩⟩
 ·exact ⟨write_in ..,fun y hy=>by cases hy⟩
theorem sendF_mem {most:Int} {q:List Msg} {m y:Msg} (h:y∈(sendF most q m).1):y∈q∨y=m:=by
 unfold sendF at h
 repeat' split at h
 ·exact .inl h
 ·exact .inl h
 ·rcases List.mem_append.1 h with h | h
  ·exact .inl h
  ·exact .inr (List.mem_singleton.1 h)
theorem sends_mem {most:Int}:∀ {l q:List Msg} {y:Msg},y∈sendsF most q l→y∈q∨y∈l
 | [],_,_,h => .inl h
 | m::l,q,y,h=>by
  rcases sends_mem (l:=l) h with h | h
  ·exact (sendF_mem h).imp (fun h=>h) fun e=>by rw [e];exact .head _
  ·exact .inr (.tail _ h)
theorem del_mem {q:List Msg} {k:Nat} {y:Msg} (h:y∈delF q k):y∈q:=by
 unfold delF at h
 rcases List.mem_append.1 h with h | h
 ·exact List.mem_of_mem_take h
 ·exact List.mem_of_mem_drop h
theorem ids_set {D:List CD} (h:∀ (i:Nat) (d:CD),D[i]? = some d→d.id=i) {j:Nat} {d d':CD} (hj:D[j]? = some d) (hd:d'.id=d.id):∀ (i:Nat) (x:CD),(D.set j d')[i]? = some x→x.id=i:=fun i x hx=>by
 rw [List.getElem?_set] at hx
 split at hx
 ·rename_i e
  subst e
  split at hx
  ·cases hx
   rw [hd,h j d hj]
  ·cases hx
 ·exact h i x hx
theorem din_ms {m:MD} (h:m.In) {i:Nat} {d d':CD} {l:List Msg} (hi:m.D[i]? = some d) (hd:DIn d d' l):∀ y∈l,MsIn m.C.length y:=fun y hy=>by
 have h1:=hd.2 y hy
 have h2:=h.d i d hi
 have h3:=(List.getElem?_eq_some_iff.1 hi).1
 have:=h.dl
 exact .inl ⟨h1.1,by omega,by omega⟩
theorem MD.In.put {m:MD} (h:m.In) {i:Nat} {c:Cor} {d d':CD} {l:List Msg} (hi:m.D[i]? = some d) (hd:DIn d d' l):(m.put i c d' (sendsF m.most m.q l)).In where
 d:=ids_set h.d hi hd.1
 dl:=by show (m.D.set i d').length=(m.C.set i c).length;rw [List.length_set,List.length_set];exact h.dl
 n0:=by show 0<(m.C.set i c).length;rw [List.length_set];exact h.n0
 q:=fun y hy=>by
  show MsIn (m.C.set i c).length y
  rw [List.length_set]
  exact (sends_mem hy).elim (h.q y) (din_ms h hi hd y)
 e:=fun j=>by
  show EnIn (m.C.set i c).length _
  rw [List.length_set]
  exact h.e j
theorem MD.In.putD {m:MD} (h:m.In) {i:Nat} {d d':CD} {l q:List Msg} (hi:m.D[i]? = some d) (hd:DIn d d' l) (hq:∀ y∈q,y∈m.q):(m.putD i d' (sendsF m.most q l)).In where
 d:=ids_set h.d hi hd.1
 dl:=by show (m.D.set i d').length=m.C.length;rw [List.length_set];exact h.dl
 n0:=h.n0
 q:=fun y hy=>(sends_mem hy).elim (fun hy=>h.q y (hq y hy)) (din_ms h hi hd y)
 e:=h.e
theorem MD.In.lost {m:MD} (h:m.In):(lostM m).In where
 d:=h.d
 dl:=by show m.D.length=(lostL _ _ _).length;rw [lost_len];exact h.dl
 n0:=by show 0<(lostL _ _ _).length;rw [lost_len];exact h.n0
 q:=fun y hy=>by
  show MsIn (lostL _ _ _).length y
  rw [lost_len]
  exact h.q y hy
 e:=fun j=>by
  show EnIn (lostL _ _ _).length _
  rw [lost_len]
  exact h.e j
theorem MD.In.step {m:MD} (h:m.In) (h4:m.C.length≤4) (x:Cho):(stepK m x).1.In:=by
 unfold stepK
 split
 ·unfold goM
  split
  ·rename_i c d _ hd
   exact h.put hd (goF_in c d x.pick)
  ·exact h
 ·split
  ·unfold drainM
   split
   ·rename_i c d _ hd
    exact h.put hd (drainR_in c d x.pick)
   ·exact h
  ·split
   ·show (delivM m x.pick).In
    unfold delivM
    split
    ·rename_i y hy
     have hmem:=List.mem_of_getElem? hy
     have hin:=h.q y hmem
     unfold takM
     split
     ·split
      ·rename_i d hd
       exact h.putD hd (takeF_in d y) fun z hz=>del_mem hz
      ·exact h
     ·rename_i hd
      have hd:y.dst=4:=Classical.not_not.1 hd
      obtain ⟨t1,t2⟩:=take_in h.e hin hd h4
      exact ⟨h.d,h.dl,h.n0,fun z hz=>(sends_mem hz).elim (fun hz=>h.q z (del_mem hz)) (t2 z),t1⟩
    ·exact h
   ·split
    ·show (evictM m _ x.pick).In
     unfold evictM
     split
     ·rename_i d hd
      exact h.putD hd (evict_in d x.pick) fun z hz=>hz
     ·exact h
    ·show (spoilF m _).In
     unfold spoilF
     split
     ·exact ⟨h.d,by show m.D.length=(m.C.set _ _).length;rw [List.length_set];exact h.dl,by show 0<(m.C.set _ _).length;rw [List.length_set];exact h.n0,fun y hy=>by show MsIn (m.C.set _ _).length y;rw [List.length_set];exact h.q y hy,fun j=>by show EnIn (m.C.set _ _).length _;rw [List.length_set];exact h.e j⟩
     ·exact h
theorem elDid:ElemI didE 33 136:=⟨Tryz.underlying33,by
 obtain ⟨i0,hi,hz0,hz1,hz2⟩:=info_parts (show (Tryz.prog.info? 53).map (fun i=>(i.zero,i.size,i.bytes))=some (some (.agg (didE.arr did0)),20,136) by kernel_rfl)
 exact ⟨i0,_,hi,hz0,hz1,hz2,by rw [show (Value.agg (didE.arr did0)).cells=didE.arr did0 from rfl,didE.size]⟩⟩
theorem elCor:ElemI (ptrE 74) 105 8:=⟨Tryz.underlying105,by
 obtain ⟨i0,hi,hz0,hz1,hz2⟩:=info_parts (show (Tryz.prog.info? 74).map (fun i=>(i.zero,i.size,i.bytes))=some (some (.pointer none),1,8) by kernel_rfl)
 exact ⟨i0,_,hi,hz0,hz1,hz2,rfl⟩⟩
theorem elCac:ElemI (ptrE 80) 106 8:=⟨Tryz.underlying106,by
 obtain ⟨i0,hi,hz0,hz1,hz2⟩:=info_parts (show (Tryz.prog.info? 80).map (fun i=>(i.zero,i.size,i.bytes))=some (some (.pointer none),1,8) by kernel_rfl)
 exact ⟨i0,_,hi,hz0,hz1,hz2,rfl⟩⟩
section
variable {N:Nat × List Deferred} {T:Tb} {e:World} {L:List Ck} {x:Operand} {ty:TypeId} {pos:String} {af:Array Edge} {g:Option (Nat × Bool)} {dd:Option Nat} {t TT:Nat}
theorem ebp {k bytes:Nat} (hE:ElemI (ptrE TT) t bytes) (h:evT T x=some (pt k)):Ef Tryz.prog N T e L ⟨dd,.buildSlice t 1 #[(0,x)],ty,pos,af,g⟩ fun K=>∀ A,K (some (.slice A 1 1)) (.hp (own (ptrE TT) A 1 [k])::L):=fun a w fr hp G kk => .inl (by
 obtain ⟨i,z,hi,hz,hsz,hby,hzc⟩:=hE.info
 have hs1:i.size=1:=hsz
 refine ⟨.slice (some ⟨w.heap.size,0,none⟩) 1 1,w.alloc (.cells #[pt k] TT),?_,kk _ _ (hp.ownNew ((Only.refl _ w).alloc _) ⟨by simp,by decide,.inr ⟨_,0,_,rfl,Go.heap_alloc_new w _,by simp [ptrE],by simp [ptrE]⟩⟩ inA_new)⟩
 have hfill:Instr.fill (fun q=>some (q*i.size,i.size)) ((Array.range (1*i.size)).map (z.cells[· % z.cells.size]!)) [(0,pt k)]=some #[pt k]:=by
  rw [hs1]
  generalize hzz:(Array.range (1*1)).map (z.cells[· % z.cells.size]!)=zz
  have hz1:zz.size=1:=by rw [← hzz];simp
  rcases zz with ⟨_ | ⟨v0,_ | ⟨v1,l⟩⟩⟩
  ·exact absurd hz1 (by simp)
  ·rfl
  ·exact absurd hz1 (by simp)
 have:=run_buildSlice (P:=Tryz.prog) w t TT 1 #[(0,pt k)] #[pt k] i z hE.ty hi hz (by rw [hs1];omega) (by rw [hs1];omega) hfill
 simp [execOp,fr.evT h,this])
end
def rightC (x:Cho):Bool:=decide (1≤x.kind) && decide (x.kind≤5)
structure ChoIn (x:Cho):Prop where
 h : -9223372036854775808≤x.hart∧x.hart≤9223372036854775807
 p : -9223372036854775808≤x.pick∧x.pick≤9223372036854775807
def cho0:Cho:=⟨0,0,0⟩
theorem c78 (c:Ck) (A:Option Addr) (cap:Nat) (l:List Cho) (hR:Rd choE c A cap l) (hl:l.length≤1048576):Sp Tryz.prog 78 [.slice A l.length cap,.func (.func 37) #[] #[]] [c] fun K=>((∀ x∈l,rightC x=true)→K (.returned (.int .i64 (-1))) [c])∧((¬ ∀ x∈l,rightC x=true)→∀ i:Nat,K (.returned (.int .i64 (i:Int))) [c]):=by
 refine Zen Tryz.func78 U U U fun e X Φ hS=>Zsr<|Zy U<|Znqs<|Zm U<|Zv (sl_of ⟨_,Tryz.underlying26⟩ U)<|Zm U ?_
 refine Znb ?_
 refine Zlq (ι:={ i:Nat // i≤l.length∧∀ j,j<i→rightC (l.getD j cho0)=true }) (fun i=>[(8,.int .i64 (i.1:Int)),(7,.int .i64 (l.length:Int)),(0,.slice A l.length cap),(1,.func (.func 37) #[] #[])]) (fun _=>[c]) (fun i=>l.length-i.1) ⟨0,by omega,fun j hj=>by omega⟩ ⟨U,U,U,U,trivial⟩ [0] U fun i=>Zsr<|Zv (ylt U U)<|Znq<|Zif U (fun h9=>?_) (fun h9=>?_)
 refine Zkn<|Zsq<|Zbl<|Zsr<|Zb 2 U<|Zns ?_
 refine Zb 3 U<|Zv (yea 0 hR U U U (by first | assumption | omega) U Tryz.underlying26 U)<|Zv (yel 0 hR U (gE (by first | assumption | omega)) U U U)<|Zkv (c37 ..) [] U U U U<|Zq<|Zn<|Zib U (fun h16=>?_) (fun h16=>?_)
 refine Zsr<|Zb 2 U<|Znr<|Zr2<|Zr1<|Zr1<|Zr2 ?_
 refine Zr1 ?_
 rotate_left
 refine Zsk<|Zxn<|Znx<|Zrg<|Zv (yadd U U (i64w U (by omega)))<|Zm U<|Znl ?_
 rotate_left
 refine Zex<|Zxt<|Zxt<|Zxx<|Zxs<|Zy U<|Znr ?_
 rotate_left
 ·have hlt:i.1<l.length:=by omega
  refine Zix (fun _ hs=>hs) ?_
  refine Zre (.t U .n) (hS.2 (fun h=>by have:=h _ (List.getElem_mem hlt);unfold rightC at this;rw [this] at h16;cases h16) i.1) [0] 0 U U U U
 ·have hlt:i.1<l.length:=by omega
  have e1:l.getD i.1 cho0=l[i.1]:=by simp [List.getD,hlt]
  refine Zlr ⟨i.1+1,by omega,fun j hj=>?_⟩ (by show l.length-(i.1+1)<l.length-i.1;omega) ⟨U,U,U,U,trivial⟩ [0] 0 U U
  by_cases hji:j=i.1
  ·rw [hji,e1]
   unfold rightC
   cases hb:(decide (1≤l[i.1].kind) && decide (l[i.1].kind≤5)) with
   | true=>rfl
   | false=>rw [hb] at h16;cases h16
  ·exact i.2.2 j (by omega)
 ·have hlt:i.1=l.length:=by have:=i.2.1;omega
  refine Zre (.t U .n) (hS.1 fun x hx=>by obtain ⟨j,hj,rfl⟩:=List.getElem_of_mem hx;have:=i.2.2 j (by omega);simpa [List.getD,hj] using this) [0] 0 U U U U
theorem c36 (c:Ck) (A:Option Addr) (cap:Nat) (l:List Cho) (hR:Rd choE c A cap l) (hl:l.length≤1048576):Sp Tryz.prog 36 [.slice A l.length cap,.func (.func 37) #[] #[]] [c] fun K=>((∀ x∈l,rightC x=true)→K (.returned (.bool false)) [c])∧((¬ ∀ x∈l,rightC x=true)→K (.returned (.bool true)) [c]):=by
 refine Zen Tryz.func36 U U U fun e X Φ hS=>Zsr<|Zy U<|Zns<|Zb 2 U ?_
 refine Zk (c78 c A cap l hR hl) [0] U U<|⟨?_,?_⟩
 refine fun a=>Zq <| Zv (yge rfl rfl) <| Zv (ya rfl) <| Znl <| Znx <| Zrt ?_
 rotate_left
 refine fun a=>fun i=>Zq <| Zv (yge rfl rfl) <| Zv (ya rfl) <| Znl <| Znx <| Zrt ?_
 rotate_left
 ·refine Zre (.t U .n) (hS.1 a) [0] 0 U U U U
 ·refine Zre (.t U .n) (hS.2 a) [0] 0 U U U U
def runF (s:MD × List Did) (x:Cho):MD × List Did:=(lostM (stepK s.1 x).1,if (stepK s.1 x).2.kind≠0 then s.2++[(stepK s.1 x).2] else s.2)
def runM (m:MD) (l:List Cho):MD × List Did:=l.foldl runF (m,[])
theorem run_snc {m:MD} {l:List Cho} {i:Nat} (h:i<l.length):runM m (l.take (i+1))=runF (runM m (l.take i)) l[i]:=by
 unfold runM
 rw [← take_snc (gE h),List.foldl_append]
 rfl
theorem step_cl (m:MD) (x:Cho):(lostM (stepK m x).1).C.length=m.C.length:=by
 show (lostL _ _ _).length=_
 rw [lost_len]
 unfold stepK
 split
 ·unfold goM
  split
  ·exact List.length_set
  ·rfl
 ·split
  ·unfold drainM
   split
   ·exact List.length_set
   ·rfl
  ·split
   ·show (delivM m x.pick).C.length=_
    unfold delivM
    split
    ·unfold takM
     repeat' split
     all_goals rfl
    ·rfl
   ·split
    ·show (evictM m _ x.pick).C.length=_
     unfold evictM
     split
     all_goals rfl
    ·show (spoilF m _).C.length=_
     unfold spoilF
     split
     ·exact List.length_set
     ·rfl
theorem runs_in:∀ {l:List Cho} {s:MD × List Did},s.1.In→s.1.C.length≤4→(l.foldl runF s).1.In∧(l.foldl runF s).1.C.length=s.1.C.length
 | [],_,h,_=>⟨h,rfl⟩
 | x::l,s,h,h4=>by
  have h1:(runF s x).1.In:=(h.step h4 x).lost
  have h2:(runF s x).1.C.length=s.1.C.length:=step_cl s.1 x
  have:=runs_in (l:=l) (s:=runF s x) h1 (by omega)
  exact ⟨this.1,this.2.trans h2⟩
theorem run_dl (m:MD) (l:List Cho):(runM m l).2.length≤l.length:=by
 have:∀ (l:List Cho) (s:MD × List Did),(l.foldl runF s).2.length≤s.2.length+l.length:=fun l=>by
  induction l with
  | nil=>intro s;exact Nat.le_refl _
  | cons x l ih=>
   intro s
   have h1:=ih (runF s x)
   have h2:(runF s x).2.length≤s.2.length+1:=by
    unfold runF
    dsimp only
    split
    ·simp
    ·omega
   simp only [List.foldl_cons,List.length_cons]
   omega
 have:=this l (m,[])
 rw [List.length_nil,Nat.zero_add] at this
 exact this
theorem c10 (k b:Nat) (m:MD) (c:Ck) (A:Option Addr) (cap:Nat) (l:List Cho) (hR:Rd choE c A cap l) (hl:k+l.length≤1000) (hx:∀ x∈l,ChoIn x) (hm:m.In) (h4:m.C.length≤4):Sp Tryz.prog 10 [pt b,.slice A l.length cap] [.hp (machC k b m),spC,c] fun K=>((∀ x∈l,rightC x=true)→∀ A' cap',K (.returned (.tuple #[.slice A' (runM m l).2.length cap',.int .i64 0])) [.hp (own didE A' cap' (runM m l).2),.hp (machC (k+l.length) b (runM m l).1),spC,c])∧((¬ ∀ x∈l,rightC x=true)→K (.returned (.tuple #[.slice none 0 0,.int .i64 2])) [.hp (machC k b m),spC,c]):=by
 have hl2:l.length≤1048576:=by omega
 refine Zen Tryz.func10 U U U fun e X Φ hS=>Zsr<|Zb 2 U<|Znq<|Zbl<|Zsr<|Zm U ?_
 refine Zk (c35 ..) [0] U U<|Zq<|Zy U<|Zn<|Zcf U<|Zsr<|Zm U ?_
 refine Zk (c36 c A cap l hR hl2) [2] U U<|⟨?_,?_⟩
 refine fun a=>Zq <| Zv (ya rfl) <| Znl <| Znx <| Zcf rfl <| Zsk <| Zxn <| Znx <| Zsr ?_
 refine Zy U<|Znqs<|Zm U<|Zv (sl_of ⟨_,Tryz.underlying26⟩ U)<|Zm U<|Zn ?_
 refine Zbl ?_
 rotate_left
 refine fun a=>Zq <| Zv (ya rfl) <| Znl <| Znx <| Zct rfl <| Zsr <| Zv (ya rfl) <| Zv (ya rfl) <| Znl ?_
 refine Zxr<|Zr2<|Zr1 ?_
 rotate_left
 ·refine Zic (fun _ hs=>sep_nil (E:=didE) hs) ?_
  refine Zlq (ι:={ p:Nat × Option Addr × Nat // p.1≤l.length }) (fun p=>[(19,.int .i64 (p.1.1:Int)),(18,.int .i64 (l.length:Int)),(17,.slice A l.length cap),(6,.slice p.1.2.1 (runM m (l.take p.1.1)).2.length p.1.2.2),(0,pt b)]) (fun p=>[.hp (own didE p.1.2.1 p.1.2.2 (runM m (l.take p.1.1)).2),.hp (machC (k+p.1.1) b (runM m (l.take p.1.1)).1),spC,c]) (fun p=>l.length-p.1.1) ⟨(0,none,0),by show 0≤_;omega⟩ ⟨U,U,U,U,U,trivial⟩ [0,1,1,0] U fun p=>Zsr<|Zv (ylt U U)<|Znq<|Zif U (fun h20=>?_) (fun h20=>?_)
  refine Zkn<|Zsq<|Zbl<|Zsr<|Zv (yea 3 hR U U U (by first | assumption | omega) U Tryz.underlying26 U)<|Zv (yel 3 hR U (gE (by first | assumption | omega)) U U U)<|Ze (eal z71) fun b8=>Zw<|Ze (esw 0 (m:=3) U U U U U (Enc.len ..) (Enc.allL ..))<|Zw0<|Znl ?_
  refine Zxs<|Zm U<|Zv (ydw 0 (m:=3) U U (Enc.len ..)) ?_
  rotate_left
  refine Zex<|Zxt<|Zxt<|Zxx<|Zxs<|Zb 3 U<|Znl ?_
  refine Zxr ?_
  rotate_left
  ·have hlt:p.1.1<l.length:=by omega
   have hin:=(runs_in (l:=l.take p.1.1) (s:=(m,[])) hm h4).1
   have hcl:=(runs_in (l:=l.take p.1.1) (s:=(m,[])) hm h4).2
   have hr:=a _ (List.getElem_mem hlt)
   have hr':1≤l[p.1.1].kind∧l[p.1.1].kind≤5:=by simpa [rightC] using hr
   have hxi:=hx _ (List.getElem_mem hlt)
   refine Zk (c16a (k+p.1.1) b (runM m (l.take p.1.1)).1 l[p.1.1] (by omega) hr'.1 hr'.2 hxi.p hxi.h hin.hn) [2,2] U U<|Zq<|Zb 3 U<|Ze (eal z53) fun b9=>Zw<|Ze (esw 0 (m:=20) U U U U U (Enc.len ..) (Enc.allL ..))<|Zw0<|Zy U<|Zn ?_
   refine Zsr<|Za 3 [0,0] U U<|Zn<|Zif U (fun h31=>?_) (fun h31=>?_)
   refine Zrg<|Zm U<|Zv (ydw 0 (m:=20) U U (Enc.len ..))<|Ze (eb1 elDid (by decide) U) fun A34=>Zw ?_
   rotate_left
   refine Zsk<|Zxn<|Znx<|Zrg<|Zv (yadd U U (i64w U (by omega)))<|Zm U<|Znl ?_
   rotate_left
   have hdl:(runM m (l.take p.1.1)).2.length≤p.1.1:=by
    have:=run_dl m (l.take p.1.1)
    rw [List.length_take] at this
    omega
   have hm1:(runM m (l.take p.1.1)).2.length+1≤maxLen:=Nat.le_trans (show _≤1048576 by omega) (by decide)
   ·refine Ze (eap' 5 0 elDid U U U own.rd U U U (fun _ _=>U) (by simp;omega) hm1)<|fun A' cap'=>Zw<|Zy U<|Znl<|Zxn<|Znx<|Zrg<|Zv (yadd U U (i64w U (by omega)))<|Zm U<|Znl ?_
    have hr:runM m (l.take (p.1.1+1))=(lostM (stepK (runM m (l.take p.1.1)).1 l[p.1.1]).1,(runM m (l.take p.1.1)).2++[(stepK (runM m (l.take p.1.1)).1 l[p.1.1]).2]):=(run_snc hlt).trans (congrArg (Prod.mk _) (if_pos h31))
    rw [Nat.add_assoc,← show (runM m (l.take (p.1.1+1))).1=lostM (stepK (runM m (l.take p.1.1)).1 l[p.1.1]).1 by rw [hr],← show (runM m (l.take (p.1.1+1))).2=(runM m (l.take p.1.1)).2++[(stepK (runM m (l.take p.1.1)).1 l[p.1.1]).2] by rw [hr]]
    refine Zlr ⟨(p.1.1+1,A',cap'),hlt⟩ (by show l.length-(p.1.1+1)<l.length-p.1.1;omega) ⟨U,U,U,U,U,trivial⟩ [5,2,2,3] 3 U U
   ·have hr:runM m (l.take (p.1.1+1))=(lostM (stepK (runM m (l.take p.1.1)).1 l[p.1.1]).1,(runM m (l.take p.1.1)).2):=(run_snc hlt).trans (congrArg (Prod.mk _) (if_neg h31))
    rw [Nat.add_assoc,← show (runM m (l.take (p.1.1+1))).1=lostM (stepK (runM m (l.take p.1.1)).1 l[p.1.1]).1 by rw [hr],← show (runM m (l.take (p.1.1+1))).2=(runM m (l.take p.1.1)).2 by rw [hr]]
    refine Zlr ⟨(p.1.1+1,p.1.2.1,p.1.2.2),hlt⟩ (by show l.length-(p.1.1+1)<l.length-p.1.1;omega) ⟨U,U,U,U,U,trivial⟩ [4,1,1,2] 2 U U
  ·have hpl:=p.2
   rw [show p.1.1=l.length by omega,List.take_length]
   refine Zre (.t U (.t U .n)) (hS.1 a _ _) [0,0,0,0] 0 U U U U
 ·refine Zre (.t U (.t U .n)) (hS.2 a) [1,1,0] 0 U U U U
theorem cors_same {k i b:Nat} {cb:List Nat} {l:List Cor} {c:Cor} (e:cb[i]? = some b) (e':l[i]? = some c) (hi:i<(cb.zip l).length):∀ h,Sep [.hp (corC k b c),.hp (corsC k ((cb.zip l).eraseIdx i))] h→corsC k (cb.zip l) h:=fun h hs=>by
 have:=cors_in (c:=c) e hi h hs
 rwa [show l.set i c=l from by
  obtain ⟨h1,h2⟩:=List.getElem?_eq_some_iff.1 e'
  rw [← h2]
  exact List.set_getElem_self h1] at this
theorem zip_snc {α β:Type} {a:List α} {l:List β} {i:Nat} {x:α} {y:β} (h:a.length=i) (e:l[i]? = some y):(a++[x]).zip (l.take (i+1))=a.zip (l.take i)++[(x,y)]:=by
 rw [← take_snc e,List.zip_append (by rw [List.length_take];have:=(List.getElem?_eq_some_iff.1 e).1;omega)]
 rfl
theorem many_snc {β:Type} {F:β→HP} {l:List β} {x:β} {h:Hl} (hs:Sep [.hp (F x),.hp (manyC F l)] h):manyC F (l++[x]) h:=many_in l (by rwa [List.append_nil])
theorem cors_snc {k i b:Nat} {nb:List Nat} {C:List Cor} {c:Cor} (h:nb.length=i) (e:C[i]? = some c):∀ g,Sep [.hp (corC k b c),.hp (corsC k (nb.zip (C.take i)))] g→corsC k ((nb++[b]).zip (C.take (i+1))) g:=fun g hs=>by
 rw [zip_snc h e]
 exact many_snc (F:=fun x:Nat × Cor=>corC k x.1 x.2) hs
theorem cacs_snc {i b:Nat} {nb:List Nat} {C:List CD} {c:CD} (h:nb.length=i) (e:C[i]? = some c):∀ g,Sep [.hp (cacC b c),.hp (cacsC (nb.zip (C.take i)))] g→cacsC ((nb++[b]).zip (C.take (i+1))) g:=fun g hs=>by
 rw [zip_snc h e]
 exact many_snc (F:=fun x:Nat × CD=>cacC x.1 x.2) hs
structure Cpy where
 i:Nat
 A:Option Addr
 cap:Nat
 B:Option Addr
 capb:Nat
 nb:List Nat
 nk:List Nat
def entAt (h:HD) (line:Int):Ent:=if (h.E.length:Int)≤line then ⟨0,sh0,false,0,0,0,false,[]⟩ else entOf h.E line.toNat
theorem c102 (k b:Nat) (h:HD) (line:Int) (hn:U32 line) (hk2:k≤1000):Sp Tryz.prog 102 [pt b,.int .u32 line] [.hp (homC k b h)] fun K=>∀ A cap x,K (.returned (.tuple #[.agg ((entAt h line).cs (.slice A (entAt h line).q.length cap)).toArray,.int .i64 x])) [.hp (homC k b h)]:=by
 have hn':IntKind.i64.wrap line=line:=i64w rfl (by unfold U32 at hn;omega)
 refine Zen Tryz.func102 U U U fun e X Φ hS=>Zsr<|Ze (eal z165) fun b4=>Zw<|Zy U<|Znq<|Zbl<|Zsr<|Zm U ?_
 refine Zk (c62 ..) [1] U U<|Zq<|Zy U<|Zn<|Zcf U<|Zsr<|Zm U<|Zv (ycv Tryz.underlying40 Tryz.underlying2 U U)<|Zm U ?_
 refine Zk (c150 ..) [0] U U<|Zq<|Zb 2 U<|Zn<|Zif U (fun h10=>?_) (fun h10=>?_)
 refine Zsr<|Zv (yb l165 U)<|Ze (esw 1 (m:=11) U U U U U U U)<|Zw0<|Zy U<|Znr<|Zr2<|Zr1 ?_
 rotate_left
 refine Zsk<|Zxn<|Zxs<|Zb 2 U ?_
 rotate_left
 ·rw [hn'] at h10
  rw [show entAt h line=_ from if_pos h10] at hS
  refine Zre (.wh 1 (m:=11) U U U (.t U .n)) (hS none 0 4) [0] 1 U U U U
 ·rw [hn'] at h10
  rw [show entAt h line=_ from if_neg h10] at hS
  have hj:line=((line.toNat:Nat):Int):=by have:=hn.1;omega
  have he:line.toNat<h.E.length:=by omega
  have hk0:k≤1000000:=by omega
  refine Zk (c151' k b line.toNat line hj h he hk0) [0] U U<|fun A=>fun cap=>Zq<|Ze (esw 2 (m:=11) U U U U U U U)<|Zw0<|Zy U<|Znr<|Zre (.wh 2 (m:=11) U U U (.t U .n)) (hS _ _ _) [1] 2 U U U U
def ownB (h:HD) (line n:Int):Bool:=decide ((entAt h line).o=n)
theorem c101 (k b1 bp:Nat) (line n:Int) (h:HD) (bh:Nat) (v0 v1 v2:Value) (hn:U32 line) (hk2:k≤1000):Sp Tryz.prog 101 [.int .u32 line,.int .i64 n,pt b1] [.blk b1 101 [pt bp],.blk bp 108 [v0,v1,v2,pt bh],.hp (homC k bh h)] fun K=>K (.returned (.bool (ownB h line n))) [.blk b1 101 [pt bp],.blk bp 108 [v0,v1,v2,pt bh],.hp (homC k bh h)]:=by
 refine Zen Tryz.func101 U U U fun e X Φ hS=>Zsr<|Zy U<|Zns<|Za 4 [0,3,1] U U ?_
 refine Zm U ?_
 refine Zk (c102 k bh h line hn hk2) [2] U U<|fun A=>fun cap=>fun x=>Zq<|Zb 3 U<|Ze (eal z165) fun b6=>Zw<|Ze (esw 0 (m:=11) U U U U U U U)<|Zw0 ?_
 refine Zy U<|Zns<|Za 5 [0,0] U U<|Znl ?_
 refine Zxr<|Zre (.t U .n) hS [2,2,1] 1 U U U U
end Go.Proofs.YtpfijldkkfiooaaGreatDoor
