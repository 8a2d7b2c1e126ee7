/-
  Part 7 of what the claim stands on: walks through the code, plain laws.
-/
import Derived.Test.YtpfijldkkfiooaaGreatDoorZUA6
set_option linter.unusedVariables false
set_option linter.unusedSimpArgs false
namespace Go.Proofs.YtpfijldkkfiooaaGreatDoor
open Go
set_option maxRecDepth 4000
theorem low_an {v w:Int} (hv:U32 v) (hw:w=1∨w=2∨w=4):lowF v w=w32 ((w64 v).tmod (w64 (1*2 ^ min (8*w).toNat IntKind.u64.bits))):=by
 have h6:w64 v=v:=by rw [w64m];unfold U32 at hv;omega
 rw [h6,Int.tmod_eq_emod_of_nonneg hv.1,low_eq hv,w32_eq]
 unfold U32 at hv
 rcases hw with rfl | rfl | rfl
 ·rw [show w64 (1*2 ^ min (8*1:Int).toNat IntKind.u64.bits)=256 from rfl,if_pos rfl];omega
 ·rw [show w64 (1*2 ^ min (8*2:Int).toNat IntKind.u64.bits)=65536 from rfl,if_neg (by decide),if_pos rfl];omega
 ·rw [show w64 (1*2 ^ min (8*4:Int).toNat IntKind.u64.bits)=4294967296 from rfl,if_neg (by decide),if_neg (by decide)];omega
theorem c89 (a:Acc) (x:Ans) (hx:U32 x.value:=by assumption) (hw:a.kind=1∨a.kind=3∨a.kind=5→a.width=1∨a.width=2∨a.width=4:=by assumption):Sp Tryz.prog 89 [.agg (accE.arr a),.agg (ansE.arr x)] [] fun K=>K (.returned (.agg (ansE.arr (ansF a x)))) []:=by
 refine Zen Tryz.func89 U U U fun e X Φ hS=>Zsr<|Ze (ebxE U) fun b2=>Zw<|Ze (ebxE U) fun b3=>Zw<|Ze (eal z46) fun b4=>Zw<|Znqs<|Zv (yf 0 U) ?_
 refine Zv (yd 2 U U U)<|Znb<|Zsq<|Zsr<|Zb 2 U<|Zn ?_
 refine Zif U (fun h7=>?_) (fun h7=>?_)
 refine Zkn<|Zct' U (dT h7)<|Zsr<|Za 4 [0,1,2,2] U U<|Zk (c133 ..) [] U U<|Zq ?_
 refine Zv (yb l46 U)<|Ze (esw 0 (m:=2) U U U U U U U)<|Zw0<|Znr<|Zr2<|Zr1<|Zre (.wh 0 (m:=2) U U U .n) hS [] 3 ?_ U U U
 rotate_left
 refine Zsr<|Zb 2 U<|Zn<|Zif U (fun h7=>?_) (fun h7=>?_)
 refine Zkn<|Zct' U (dT h7)<|Zsr<|Za 4 [0,1,2,2] U U<|Zk (c133 ..) [] U U<|Zq ?_
 refine Zv (yb l46 U)<|Ze (esw 0 (m:=2) U U U U U U U)<|Zw0<|Znr<|Zr2<|Zr1<|Zre (.wh 0 (m:=2) U U U .n) hS [] 3 ?_ U U U
 rotate_left
 refine Zrg<|Zb 2 U<|Zn<|Zif U (fun h7=>?_) (fun h7=>?_)
 refine Zsr<|Za 4 [0,1,2,2] U U<|Zk (c133 ..) [] U U<|Zq<|Zv (yb l46 U)<|Ze (esw 0 (m:=2) U U U U U U U)<|Zw0<|Znl ?_
 refine Zxr<|Zr2<|Zr1<|Zre (.wh 0 (m:=2) U U U .n) hS [] 3 ?_ U U U
 rotate_left
 refine Zsr<|Zb 2 U<|Zn<|Zif U (fun h17=>?_) (fun h17=>?_)
 refine Zsr<|Za 2 [1,1] U U<|Zv (yb l46 U)<|Ze (esw 0 (m:=2) U U U U U U U)<|Zw0<|Znr<|Zr2<|Zr1 ?_
 refine Zre (.wh 0 (m:=2) U U U .n) hS [] 3 ?_ U U U
 rotate_left
 refine Zsk<|Zxn<|Zxs<|Zv (yb l46 U)<|Ze (esw 0 (m:=2) U U U U U U U)<|Zw0<|Znr<|Zre (.wh 0 (m:=2) U U U .n) hS [] 3 ?_ U U U
 rotate_left
 all_goals
  unfold ansF
  repeat (first | rw [if_neg (by omega)] | rw [if_pos (by omega)])
  first | rfl | (rw [low_an hx (hw (by omega))];rfl)
theorem rdy_e {h:Hrt} {w size c:Int} (e:rdyF h w size = .error c):c≠0:=by
 unfold rdyF at e
 repeat' split at e
 all_goals (cases e;try decide)
theorem act_c {h:Hrt} {w size:Int} (hg:goesF h=true) (e:(actF h w size).2.1≠0):rdyF h w size = .error (actF h w size).2.1:=by
 unfold actF at e ⊢
 rw [if_neg (by rw [hg];decide)] at e ⊢
 cases hr:rdyF h w size with
 | error c=>rfl
 | ok r=>rw [hr] at e;exact absurd rfl e
theorem act_0 {h:Hrt} {w size:Int} (hg:goesF h=true) (e:(actF h w size).2.1=0):rdyF h w size = .ok ((decF w).1,(actF h w size).1,(nxtF h (decF w).1).1):=by
 unfold actF at e ⊢
 rw [if_neg (by rw [hg];decide)] at e ⊢
 cases hr:rdyF h w size with
 | error c=>rw [hr] at e;exact absurd e (rdy_e hr)
 | ok r=>
  obtain ⟨i,a,p⟩:=r
  obtain ⟨rfl,rfl,rfl⟩:=rdy_ins hr
  rfl
theorem don_c {h:Hrt} {w size:Int} {x:Ans} (hg:goesF h=true) (e:(actF h w size).2.1≠0):donF h w size x=(h.setCause (actF h w size).2.1,0):=by
 unfold donF
 rw [if_neg (by rw [hg];decide),act_c hg e]
theorem don_0 {h:Hrt} {w size:Int} {x:Ans} (hg:goesF h=true) (e:(actF h w size).2.1=0):(donF h w size x).1=if (valF h (decF w).1 x).isSome=true∧((decF w).1.rd:Int)≠0 then (h.setReg (decF w).1.rd ((valF h (decF w).1 x).getD 0)).setPc (nxtF h (decF w).1).1 else h.setPc (nxtF h (decF w).1).1:=by
 unfold donF
 rw [if_neg (by rw [hg];decide),act_0 hg e]
 cases hv:valF h (decF w).1 x with
 | none=>simp only [hv];exact (if_neg fun a=>Bool.noConfusion a.1).symm
 | some v=>
  simp only [hv]
  by_cases hd:((decF w).1.rd:Int)≠0
  ·rw [if_pos (dT hd),if_pos ⟨rfl,hd⟩];rfl
  ·rw [if_neg (by rw [dF hd];decide),if_neg fun a=>hd a.2]
theorem c90 (h:Hrt) (w size:Int) (x:Ans) (ok:h.Ok:=by assumption) (hw:U32 w:=by assumption) (hc:h.cause=0:=by assumption) (hx:U32 x.value:=by assumption):Sp Tryz.prog 90 [.agg (hrtE.arr h),.int .u32 w,.int .i64 size,.agg (ansE.arr x)] [] fun K=>K (.returned (.agg (hrtE.arr (donF h w size x).1))) []:=by
 have io:=dec_ok w
 have h1:=io.s1
 have h2:=io.s2
 have h3:=io.d
 have him:=io.im
 have hg:goesF h=true:=dT hc
 refine Zen Tryz.func90 U U U fun e X Φ hS=>Zsr<|Ze (ebxE U) fun b4=>Zw<|Ze (ebxE U) fun b7=>Zw<|Ze (eal z59) fun b8=>Zw<|Zns<|Zv (ydw 2 (m:=35) U U (Enc.len ..))<|Zm U ?_
 refine Zm U<|Zk (c47 ..) [] U U<|Zq<|Zb 3 U<|Ze (eal z44) fun b9=>Zw<|Ze (esw 0 (m:=7) U U U U U (Enc.len ..) (Enc.allL ..))<|Zw0<|Zy U<|Znl ?_
 refine Zxq<|Zsr<|Zb 2 U<|Zn<|Zif U (fun h24=>?_) (fun h24=>?_)
 refine Zsr<|Za 2 [34] U U<|Ze (es 3 U U U (pt_cause _ _) U)<|Zw0<|Zns<|Zv (ydw 3 (m:=35) U U (Enc.len ..))<|Ze (esw 1 (m:=35) U U U U U (Enc.len ..) (Enc.allL ..))<|Zw0<|Znl ?_
 refine Zxr<|Zr1<|Zre (.wh 1 (m:=35) U U (Enc.len ..) .n) hS [] 4 ?_ U U U
 rotate_left
 refine Zks<|Zm U<|Zk (c65 ..) [] U U<|Zq<|Zb 3 U<|Ze (eal z167) fun b11=>Zw ?_
 refine Ze (esw 0 (m:=7) U U U U U (Enc.len ..) (Enc.allL ..))<|Zw0<|Zy U<|Zns<|Zv (ydw 4 (m:=35) U U (Enc.len ..))<|Zv (ydw 0 (m:=7) U U (Enc.len ..))<|Zv (ydw 3 (m:=2) U U (Enc.len ..))<|Zk (c91 ..) [] U U<|Zq ?_
 refine Zb 5 U<|Zns<|Zv (ydw 4 (m:=35) U U (Enc.len ..))<|Zv (ydw 0 (m:=7) U U (Enc.len ..)) ?_
 refine Zk (c88 ..) [] U U<|Zq<|Zy U<|Znqs<|Zb 2 U<|Zc 4 [1,0] U U ?_
 refine Zn<|Zib U (fun h48=>?_) (fun h48=>?_)
 refine Zrg<|Za 4 [1,0,2] U U<|Zv (yai Tryz.underlying57 U U (by omega))<|Ze (es 4 U U U (pt_reg _ _ _ (by omega)) U)<|Zw0<|Zns ?_
 refine Za 2 [1] U U<|Ze (es 4 U U U (pt_pc _ _) U)<|Zw0<|Zns<|Zv (ydw 4 (m:=35) U U (Enc.len ..))<|Ze (esw 2 (m:=35) U U U U U (Enc.len ..) (Enc.allL ..))<|Zw0<|Zn ?_
 refine Zrt<|Zre (.wh 2 (m:=35) U U (Enc.len ..) .n) hS [] 5 ?_ U U U
 rotate_left
 refine Zks<|Za 2 [1] U U<|Ze (es 4 U U U (pt_pc _ _) U)<|Zw0<|Zns<|Zv (ydw 4 (m:=35) U U (Enc.len ..)) ?_
 refine Ze (esw 2 (m:=35) U U U U U (Enc.len ..) (Enc.allL ..))<|Zw0<|Znr<|Zre (.wh 2 (m:=35) U U (Enc.len ..) .n) hS [] 5 ?_ U U U
 rotate_left
 ·rw [don_c hg h24];rfl
 ·rw [Bool.and_eq_true,decide_eq_true_eq] at h48
  rw [don_0 hg (Classical.not_not.1 h24),if_pos h48];rfl
 ·rw [Bool.and_eq_false_iff,decide_eq_false_iff_not] at h48
  rw [don_0 hg (Classical.not_not.1 h24),if_neg fun a=>h48.elim (fun b=>Bool.noConfusion (b.symm.trans a.1)) fun b=>b a.2];rfl
theorem acc_w {h:Hrt} {i:Ins}:(accF h i).kind=1∨(accF h i).kind=3∨(accF h i).kind=5→(accF h i).width=1∨(accF h i).width=2∨(accF h i).width=4:=by
  unfold accF acc0
  generalize i.op=op
  repeat' split
  all_goals
    dsimp only
    intro a
    first
      | omega
      | (have:op=11∨op=12∨op=13∨op=14∨op=15:=by omega
         rcases this with rfl | rfl | rfl | rfl | rfl <;> decide)
theorem act_w {h:Hrt} {w size:Int}:(actF h w size).1.kind=1∨(actF h w size).1.kind=3∨(actF h w size).1.kind=5→(actF h w size).1.width=1∨(actF h w size).1.width=2∨(actF h w size).1.width=4:=by
 have h0:acc0.kind=1∨acc0.kind=3∨acc0.kind=5→acc0.width=1∨acc0.width=2∨acc0.width=4:=by decide
 unfold actF
 split
 ·exact h0
 ·split
  ·rename_i i a p hr
   obtain ⟨rfl,rfl,rfl⟩:=rdy_ins hr
   exact acc_w
  ·exact h0
theorem cmt_1 {h:Hrt} {w size:Int} {x:Ans} (hg:goesF h=true):cmtF h w size x=((donF h w size (ansF (actF h w size).1 x)).1,⟨h.pc,w,(actF h w size).1,ansF (actF h w size).1 x,(wrF (donF h w size (ansF (actF h w size).1 x)).1 w (actF h w size).2.1).1,(wrF (donF h w size (ansF (actF h w size).1 x)).1 w (actF h w size).2.1).2,(actF h w size).2.1⟩,0):=by
 refine if_neg fun a=>a ?_
 unfold actF
 rw [if_neg (by rw [hg];decide)]
 split <;> rfl
theorem row_v:rowT.all (fun r => !r.2.1.rd || decide (¬ (r.1=0∨(5≤r.1∧r.1≤10)∨(16≤r.1∧r.1≤18)∨r.1=38∨r.1=39)))=true:=by decide
theorem dec_v {h:Hrt} {w:Int} {x:Ans} (hd:((decF w).1.rd:Int)≠0):(valF h (decF w).1 x).isSome=true:=by
 have h1:¬ ((decF w).1.op=0∨(5≤(decF w).1.op∧(decF w).1.op≤10)∨(16≤(decF w).1.op∧(decF w).1.op≤18)∨(decF w).1.op=38∨(decF w).1.op=39)∧1≤(decF w).1.op∧(decF w).1.op≤59:=by
  revert hd
  unfold decF
  cases hr:rowF w with
  | none=>exact fun a=>absurd rfl a
  | some r=>
   intro hd
   have hm:=row_mem hr
   have:=List.all_eq_true.1 row_v r hm
   cases hf:r.2.1.rd with
   | false=>exact absurd (show (((if r.2.1.rd then (partF w 11 7).toNat else 0):Nat):Int)=0 by rw [hf];rfl) hd
   | true=>
    rw [hf] at this
    exact ⟨of_decide_eq_true this,row_op hm⟩
 generalize (decF w).1=i at *
 by_cases hc:19≤i.op∧i.op≤37∨40≤i.op∧i.op≤47
 ·rw [va_t hc rfl];rfl
 ·rw [va_g hc]
  unfold valG
  repeat' split
  all_goals first | rfl | (exfalso;omega)
theorem c48 (h:Hrt) (w size:Int) (x:Ans) (ok:h.Ok:=by assumption) (hw:U32 w:=by assumption) (hc:h.cause=0:=by assumption) (hx:U32 x.value:=by assumption):Sp Tryz.prog 48 [.agg (hrtE.arr h),.int .u32 w,.int .i64 size,.agg (ansE.arr x)] [] fun K=>K (.returned (.tuple #[.agg (hrtE.arr (cmtF h w size x).1),.agg (comE.arr (cmtF h w size x).2.1)])) []:=by
 have io:=dec_ok w
 have h1:=io.s1
 have h2:=io.s2
 have h3:=io.d
 have him:=io.im
 have hg:goesF h=true:=dT hc
 have haw:(actF h w size).1.kind=1∨(actF h w size).1.kind=3∨(actF h w size).1.kind=5→(actF h w size).1.width=1∨(actF h w size).1.width=2∨(actF h w size).1.width=4:=act_w
 have hxa:U32 (ansF (actF h w size).1 x).value:=ans_u
 refine Zen Tryz.func48 U U U fun e X Φ hS=>Zsr<|Ze (ebxE U) fun b4=>Zw<|Ze (ebxE U) fun b7=>Zw<|Ze (eal z59) fun b8=>Zw<|Ze (eal z49) fun b9=>Zw<|Zns<|Zv (ydw 3 (m:=35) U U (Enc.len ..)) ?_
 refine Zb 2 U<|Zk (c47 ..) [] U U<|Zq<|Zb 3 U<|Ze (eal z44) fun b10=>Zw<|Ze (esw 0 (m:=7) U U U U U (Enc.len ..) (Enc.allL ..))<|Zw0<|Zy U ?_
 refine Zns<|Zv (ydw 0 (m:=7) U U (Enc.len ..))<|Zv (ydw 3 (m:=2) U U (Enc.len ..))<|Zk (c89 ..) [] U U<|Zq<|Ze (esw 3 (m:=2) U U U U (Enc.len ..) (Enc.len ..) (Enc.allL ..))<|Zw0<|Zn ?_
 refine Zsr<|Zv (ydw 4 (m:=35) U U (Enc.len ..))<|Zb 2 U<|Zv (ydw 3 (m:=2) U U (Enc.len ..))<|Zk (c90 ..) [] U U<|Zq<|Ze (eal z59) fun b12=>Zw<|Ze (esw 0 (m:=35) U U U U U (Enc.len ..) (Enc.allL ..))<|Zw0<|Znl ?_
 refine Zxs<|Za 3 [1,5] U U<|Zv (ydw 1 (m:=7) U U (Enc.len ..))<|Zv (ydw 4 (m:=2) U U (Enc.len ..))<|Zm U<|Zv (yb l49 U)<|Ze (eal z49) fun b13=>Zw ?_
 refine Ze (esw 0 (m:=14) U U U U U U U)<|Zw0<|Zns<|Zm U<|Zk (c65 ..) [] U U<|Zq<|Zb 3 U ?_
 refine Ze (eal z167) fun b14=>Zw<|Ze (esw 0 (m:=7) U U U U U (Enc.len ..) (Enc.allL ..))<|Zw0<|Zy U<|Zns<|Zv (ydw 7 (m:=35) U U (Enc.len ..))<|Zv (ydw 0 (m:=7) U U (Enc.len ..))<|Zv (ydw 6 (m:=2) U U (Enc.len ..))<|Zk (c91 ..) [] U U ?_
 refine Zq<|Zb 5 U<|Znqs ?_
 refine Zb 3 U<|Zc 7 [1,0] U U<|Zn<|Zib U (fun h61=>?_) (fun h61=>?_)
 refine Zhd [1] U U<|Zht 0 U (yf 1 U)<|Zht 1 U (yd 0 U U U)<|Zht 2 U (yf 1 U)<|Zht 3 U (yd 0 U U U)<|Zht 4 U (yf 2 U)<|Zht 5 U (yai Tryz.underlying57 U U (by omega))<|Zht 6 U (yd 1 U U (nt_reg _ _ (by omega)))<|Zht 7 U (yf 11 U)<|ZH1 8<|Zoe U (es 0 U U U U U)<|Zwh0 1 U ?_
 refine Zht 9 U (yf 12 U)<|ZH1 10<|Zoe U (es 0 U U U U U)<|Zwh0 1 U<|ZHn<|Zxq<|Zhd [5,4] U U<|Zht 0 U (ydw 2 (m:=35) U U (Enc.len ..))<|Zht 1 U (ydw 0 (m:=14) U U U)<|ZH1 2<|Zoe U (esw 0 (m:=35) U U U U U (Enc.len ..) (Enc.allL ..))<|Zwh0 2 U<|ZH1 3<|Zoe U (esw 1 (m:=14) U U U U U U U)<|Zwh0 2 U ?_
 refine ZHn<|Zxr<|Zre (.wh 0 (m:=35) U U (Enc.len ..) (.wh 1 (m:=14) U U U .n)) hS [] 8 ?_ U U U
 rotate_left
 refine Zkn<|Zsq<|Zhd [5,4] U U<|Zht 0 U (ydw 2 (m:=35) U U (Enc.len ..))<|Zht 1 U (ydw 1 (m:=14) U U U)<|ZH1 2<|Zoe U (esw 0 (m:=35) U U U U U (Enc.len ..) (Enc.allL ..))<|Zwh0 2 U<|ZH1 3<|Zoe U (esw 1 (m:=14) U U U U U U U)<|Zwh0 2 U<|ZHn<|Znx ?_
 refine Zrt<|Zre (.wh 0 (m:=35) U U (Enc.len ..) (.wh 1 (m:=14) U U U .n)) hS [] 8 ?_ U U U
 rotate_left
 all_goals rw [cmt_1 hg]
 ·rw [Bool.and_eq_true,Bool.and_eq_true,decide_eq_true_eq,decide_eq_true_eq] at h61
  rw [show wrF _ w (actF h w size).2.1=_ from if_pos ⟨by have:=h61.2;omega,h61.1.1⟩]
  rfl
 ·rw [show wrF _ w (actF h w size).2.1=_ from if_neg fun a=>by
   rw [dec_v (by omega),Bool.and_true,Bool.and_eq_false_iff,decide_eq_false_iff_not,decide_eq_false_iff_not] at h61
   omega]
  rfl
theorem elCom:ElemI comE 55 88:=⟨Tryz.underlying55,by
 obtain ⟨i0,hi,hz0,hz1,hz2⟩:=info_parts (show (Tryz.prog.info? 49).map (fun i=>(i.zero,i.size,i.bytes))=some (some (.agg (comE.arr com0)),14,88) by kernel_rfl)
 exact ⟨i0,_,hi,hz0,hz1,hz2,by rw [show (Value.agg (comE.arr com0)).cells=comE.arr com0 from rfl,comE.size]⟩⟩
theorem elAns:ElemI ansE 56 8:=⟨Tryz.underlying56,by
 obtain ⟨i0,hi,hz0,hz1,hz2⟩:=info_parts (show (Tryz.prog.info? 46).map (fun i=>(i.zero,i.size,i.bytes))=some (some (.agg (ansE.arr ans0)),2,8) by kernel_rfl)
 exact ⟨i0,_,hi,hz0,hz1,hz2,by rw [show (Value.agg (ansE.arr ans0)).cells=ansE.arr ans0 from rfl,ansE.size]⟩⟩
def askK (k:Int):Bool:=decide (k=1) || decide (k=3) || decide (k=4) || decide (k=5)
def comR (pc:Int):Com:=⟨pc,0,acc0,ans0,0,0,4⟩
def tolF (code:List Int) (size:Int):Nat→Hrt→List Ans→List Com→Hrt × List Com
 | 0,h,_,out=>(h,out)
 | n+1,h,al,out=>if h.cause≠0 then (h,out) else if (fetF code h.pc).2=false then (h.setCause 4,out++[comR h.pc])
  else if askK (actF h (fetF code h.pc).1 size).1.kind=true then match al with
   | []=>(h,out)
   | x::al=>tolF code size n (cmtF h (fetF code h.pc).1 size x).1 al (out++[(cmtF h (fetF code h.pc).1 size x).2.1])
  else tolF code size n (cmtF h (fetF code h.pc).1 size ans0).1 al (out++[(cmtF h (fetF code h.pc).1 size ans0).2.1])
section
variable {code:List Int} {size:Int} {n:Nat} {h:Hrt} {al:List Ans} {out:List Com}
theorem tol_stop (hc:h.cause≠0):tolF code size n h al out=(h,out):=by
 cases n with
 | zero=>rfl
 | succ n=>exact if_pos hc
theorem tol_none (hc:h.cause=0) (hf:(fetF code h.pc).2=false):tolF code size (n+1) h al out=(h.setCause 4,out++[comR h.pc]):=(if_neg (fun a=>a hc)).trans (if_pos hf)
theorem tol_no (hc:h.cause=0) (hf:(fetF code h.pc).2=true) (ha:askK (actF h (fetF code h.pc).1 size).1.kind=true):tolF code size (n+1) h [] out=(h,out):=(if_neg (fun a=>a hc)).trans ((if_neg (by rw [hf];decide)).trans (if_pos ha))
theorem tol_x {x:Ans} (hc:h.cause=0) (hf:(fetF code h.pc).2=true) (ha:askK (actF h (fetF code h.pc).1 size).1.kind=true):tolF code size (n+1) h (x::al) out=tolF code size n (cmtF h (fetF code h.pc).1 size x).1 al (out++[(cmtF h (fetF code h.pc).1 size x).2.1]):=(if_neg (fun a=>a hc)).trans ((if_neg (by rw [hf];decide)).trans (if_pos ha))
theorem tol_0 (hc:h.cause=0) (hf:(fetF code h.pc).2=true) (ha:askK (actF h (fetF code h.pc).1 size).1.kind=false):tolF code size (n+1) h al out=tolF code size n (cmtF h (fetF code h.pc).1 size ans0).1 al (out++[(cmtF h (fetF code h.pc).1 size ans0).2.1]):=(if_neg (fun a=>a hc)).trans ((if_neg (by rw [hf];decide)).trans (if_neg (by rw [ha];decide)))
end
theorem fet_w {code:List Int} {pc:Int} (hp:U32 pc):IntKind.i64.wrap (IntKind.u32.wrap (pc.tdiv 4))=((pc.tdiv 4).toNat:Int):=by
 have e:=td_u hp 4
 unfold U32 at hp
 rw [e,show IntKind.u32.wrap (pc/4)=pc/4 from w32_of ⟨by omega,by omega⟩,i64i ⟨by omega,by omega⟩]
 omega
theorem fet_a {code:List Int} {pc:Int} (h:pc.tmod 4≠0):(fetF code pc).2=false:=by unfold fetF;rw [if_pos h]
theorem fet_b {code:List Int} {pc:Int} (hp:U32 pc) (h:(decide (pc.tmod 4≠0) || decide ((code.length:Int)≤IntKind.i64.wrap (IntKind.u32.wrap (pc.tdiv 4))))=true):(fetF code pc).2=false:=by
 rw [Bool.or_eq_true,decide_eq_true_eq,decide_eq_true_eq,fet_w (code:=code) hp] at h
 rcases h with h | h
 ·exact fet_a h
 ·unfold fetF
  split
  ·rfl
  ·rw [List.getElem?_eq_none (by omega)]
theorem fet_c {code:List Int} {pc:Int} (hp:U32 pc) (h:(decide (pc.tmod 4≠0) || decide ((code.length:Int)≤IntKind.i64.wrap (IntKind.u32.wrap (pc.tdiv 4))))=false):∃ hlt:(pc.tdiv 4).toNat<code.length,fetF code pc=(code[(pc.tdiv 4).toNat],true):=by
 rw [Bool.or_eq_false_iff,decide_eq_false_iff_not,decide_eq_false_iff_not,fet_w (code:=code) hp] at h
 have hlt:(pc.tdiv 4).toNat<code.length:=by omega
 exact ⟨hlt,by unfold fetF;rw [if_neg h.1,gE hlt]⟩
theorem ask_e {k:Int} (h:(decide (k=1) || decide (3≤k) && decide (k≤5))=true):askK k=true:=by
 simp only [askK,Bool.or_eq_true,Bool.and_eq_true,decide_eq_true_eq] at *;omega
theorem ask_f {k:Int} (h:(decide (k=1) || decide (3≤k) && decide (k≤5))=false):askK k=false:=by
 simp only [askK,Bool.or_eq_false_iff,Bool.and_eq_false_iff,decide_eq_false_iff_not] at *;omega
structure TolS where
 i:Nat
 at':Nat
 h:Hrt
 out:List Com
 O:Option Addr
 c:Nat
structure TolI (code:List Int) (size:Int) (most:Nat) (h0:Hrt) (al:List Ans) (s:TolS):Prop where
 eq:tolF code size most h0 al []=tolF code size (most-s.i) s.h (al.drop s.at') s.out
 ok:s.h.Ok
 le:s.i≤most
 la:s.at'≤al.length
 lo:s.out.length≤s.i
theorem c14 (c1 c2:Ck) (A B:Option Addr) (cap cB most:Nat) (code:List Int) (size id:Int) (al:List Ans) (hR:code≠[]→Rd u32E c1 A cap code) (hR2:Rd ansE c2 B cB al) (hl:code.length≤1048576) (hu:∀ w∈code,U32 w) (hm:most≤1000) (ha:al.length≤1000) (hau:∀ x∈al,U32 x.value) (hid:0≤id∧id<4) :
  Sp Tryz.prog 14 [.slice A code.length cap,.int .i64 size,.int .i64 id,.int .i64 (most:Int),.slice B al.length cB] [c1,c2] fun K=>∀ O cap',K (.returned (.tuple #[.agg (hrtE.arr (tolF code size most (hrt0 id) al []).1),.slice O (tolF code size most (hrt0 id) al []).2.length cap'])) [.hp (own comE O cap' (tolF code size most (hrt0 id) al []).2),c1,c2]:=by
 have hlm:∀ n:Nat,n≤1001→n≤maxLen:=fun n h=>Nat.le_trans (show n≤1048576 by omega) (by decide)
 refine Zen Tryz.func14 U U U fun e X Φ hS=>Zsr<|Ze (eal z59) fun b10=>Zw<|Zy U<|Zns<|Zm U<|Zv (yb l59 U)<|Ze (eal z59) fun b12=>Zw ?_
 refine Ze (esw 0 (m:=35) U U U U U U U)<|Zw0<|Zns<|Zy U<|Zns<|Zy U<|Znl ?_
 refine Zxq<|Zsr<|Zy U<|Znb ?_
 refine Zic (fun _ hs=>sep_nil (E:=comE) hs) ?_
 refine Zlq (ι:={ p:TolS // TolI code size most (hrt0 id) al p }) (fun p=>[(15,.int .i64 (p.1.i:Int)),(14,.int .i64 (p.1.at':Int)),(13,.slice p.1.O p.1.out.length p.1.c),(12,pt b12),(10,pt b10),(0,.slice A code.length cap),(1,.int .i64 size),(3,.int .i64 (most:Int)),(4,.slice B al.length cB)]) (fun p=>[.hp (own comE p.1.O p.1.c p.1.out),.blk b12 59 (hrtE.cells p.1.h)]) (fun p=>most-p.1.i) ⟨⟨0,0,hrt0 id,[],none,0⟩,⟨U,hrt0_ok hid.1 hid.2,Nat.zero_le _,Nat.zero_le _,Nat.le_refl _⟩⟩ ⟨U,U,U,U,U,U,U,U,U,trivial⟩ [0,0] U fun p=>Zsq<|Zsr<|Zb 4 U<|Zgs U U (fun h28=>?_) (fun h28=>?_)
 refine Zg' U U (dT h28)<|Zv (yf 34 U)<|Zg' U U (dT h28)<|Zv (yd 1 U U (nt_cause _))<|Zc 2 [] U U<|Zn<|Zib U (fun h32=>?_) (fun h32=>?_)
 refine Zkn<|Zsq<|Zbl<|Zsq<|Zsr<|Za 2 [1,1] U U<|Zv (yrem U U (by decide) U)<|Zv (yne U U) ?_
 refine Zm U<|Zgs U U (fun h39=>?_) (fun h39=>?_)
 refine Zu' U U (dT h39) U<|Zu' U U (dT h39) U<|Zu' U U (dT h39) U<|Zu' U U (dT h39) U<|Zu' U U (dT h39) U<|Zu' U U (dT h39) U<|Zu' U U (dT h39) U<|Zv (ypt' U (dT h39) U)<|Zn ?_
 refine Zct U<|Zsr<|Zv (yf 34 U)<|Ze (es 1 U U U (pt_cause _ _) U)<|Zw0<|Znq ?_
 rotate_left
 refine Zg' U U (dF h39)<|Zv (yf 1 U)<|Zg' U U (dF h39)<|Zv (yd 1 U U U)<|Zg' U U (dF h39)<|Zv (yquo U U (by decide) U)<|Zg' U U (dF h39)<|Zv (ycv Tryz.underlying40 Tryz.underlying2 U U)<|Zg' U U (dF h39)<|Zm U ?_
 refine Zg' U U (dF h39)<|Zv (sl_of ⟨_,Tryz.underlying62⟩ U)<|Zc 2 [] U U<|Zn<|Zib U (fun h47=>?_) (fun h47=>?_)
 refine Zsr<|Zv (yf 34 U)<|Ze (es 1 U U U (pt_cause _ _) U)<|Zw0<|Znq ?_
 rotate_left
 refine Zks<|Za 3 [1,1] U U<|Zv (yquo U U (by decide) U)<|Zv (ycv Tryz.underlying40 Tryz.underlying3 U U) ?_
 rotate_left
 refine Zex<|Zxt<|Zxt<|Zxx<|Zxs<|Zv (ydw 1 (m:=35) U U (Enc.len ..))<|Zm U<|Ze (esw 2 (m:=35) U U U U U (Enc.len ..) (Enc.allL ..))<|Zw0<|Zy U ?_
 refine Znr ?_
 rotate_left
 refine Zu' U U (dF h28) U<|Zu' U U (dF h28) U<|Zu' U U (dF h28) U<|Zv (ypf' U (dF h28) U)<|Zn<|Zcf U<|Zex<|Zxt<|Zxt ?_
 refine Zxx<|Zxs<|Zv (ydw 1 (m:=35) U U (Enc.len ..))<|Zm U<|Ze (esw 2 (m:=35) U U U U U (Enc.len ..) (Enc.allL ..))<|Zw0<|Zy U<|Znr ?_
 rotate_left
 all_goals
  have hp:=p.2
  try (have h32':=h32;rw [Bool.and_eq_true,decide_eq_true_eq,decide_eq_true_eq] at h32';have hc:=h32'.2)
 ·have e:tolF code size most (hrt0 id) al []=(p.1.h.setCause 4,p.1.out++[comR p.1.h.pc]):=by rw [hp.eq,show most-p.1.i=(most-p.1.i-1)+1 by omega];exact tol_none hc (fet_a h39)
  rw [e] at hS
  refine Zhd [0,1] U U<|Zht 0 U (ydw 0 (m:=35) U U (Enc.len ..))<|Zht 1 U (ym U)<|Zht 2 U (yf 1 U)<|Zht 3 U (yd 0 U U U)<|Zht 4 U (yb l49 U) ?_
  refine ZH1 5<|Zoe U (eb1 elCom (by decide) (p:=comR p.1.h.pc) U)<|fun B=>Zwh 3 U ?_
  refine ZH1 6<|Zoe U (eap' 1 0 elCom U U U own.rd U U U (fun _ _=>U) (by have:=hp.lo;simp;omega) (hlm _ (by have:=hp.lo;have:=hp.le;simp;omega)))<|fun A' cap'=>Zwh 3 U<|ZH1 7<|Zoe U (esw 2 (m:=35) U U U U U (Enc.len ..) (Enc.allL ..))<|Zwh0 3 U<|Zht 8 U (ya U)<|ZHn<|Zxr<|Zr1<|Zr2<|Zr1<|Zr1 ?_
  refine Zr2<|Zr1<|Zre (.wh 2 (m:=35) U U (Enc.len ..) (.t U .n)) (hS _ _) [1,3,3] 3 U U U U
 ·have e:tolF code size most (hrt0 id) al []=(p.1.h.setCause 4,p.1.out++[comR p.1.h.pc]):=by rw [hp.eq,show most-p.1.i=(most-p.1.i-1)+1 by omega];exact tol_none hc (fet_b hp.ok.pc h47)
  rw [e] at hS
  refine Zhd [0,1] U U<|Zht 0 U (ydw 0 (m:=35) U U (Enc.len ..))<|Zht 1 U (ym U)<|Zht 2 U (yf 1 U)<|Zht 3 U (yd 0 U U U)<|Zht 4 U (yb l49 U) ?_
  refine ZH1 5<|Zoe U (eb1 elCom (by decide) (p:=comR p.1.h.pc) U)<|fun B=>Zwh 3 U ?_
  refine ZH1 6<|Zoe U (eap' 1 0 elCom U U U own.rd U U U (fun _ _=>U) (by have:=hp.lo;simp;omega) (hlm _ (by have:=hp.lo;have:=hp.le;simp;omega)))<|fun A' cap'=>Zwh 3 U<|ZH1 7<|Zoe U (esw 2 (m:=35) U U U U U (Enc.len ..) (Enc.allL ..))<|Zwh0 3 U<|Zht 8 U (ya U)<|ZHn<|Zxr<|Zr1<|Zr2<|Zr1<|Zr1 ?_
  refine Zr2<|Zr1<|Zre (.wh 2 (m:=35) U U (Enc.len ..) (.t U .n)) (hS _ _) [1,3,3] 3 U U U U
 ·obtain ⟨hlt,hfe⟩:=fet_c hp.ok.pc h47
  rw [fet_w (code:=code) hp.ok.pc]
  have hw:=hu _ (List.getElem_mem hlt)
  have hR1:=hR (List.ne_nil_of_length_pos (by omega))
  have hok:=hp.ok
  have hx0:U32 ans0.value:=⟨by decide,by decide⟩
  have hf2:(fetF code p.1.h.pc).2=true:=by rw [hfe]
  have hf1:(fetF code p.1.h.pc).1=code[(p.1.h.pc.tdiv 4).toNat]:=by rw [hfe]
  have hi1:most-p.1.i=(most-p.1.i-1)+1:=by omega
  have hq:=hp.eq
  rw [hi1] at hq
  refine Zv (yea 3 hR1 U U U (by first | assumption | omega) U Tryz.underlying62 U)<|Zv (yec (m:=0) 3 hR1 U (gE (by first | assumption | omega)) U U U)<|Zy U<|Zns<|Zv (ydw 1 (m:=35) U U (Enc.len ..))<|Zb 2 U<|Zk (c47 ..) [] U U ?_
  refine Zq<|Zb 3 U<|Ze (eal z44) fun b17=>Zw<|Ze (esw 0 (m:=7) U U U U U (Enc.len ..) (Enc.allL ..))<|Zw0<|Zy U<|Zns ?_
  refine Zv (yb l46 U)<|Ze (eal z46) fun b19=>Zw<|Ze (esw 0 (m:=2) U U U U U U U)<|Zw0<|Zns<|Za 3 [0,1] U U<|Znl ?_
  refine Zxq<|Zsr<|Zb 3 U<|Zc 7 [] U U<|Zn<|Zib U (fun h82=>?_) (fun h82=>?_)
  refine Zsq<|Zsr<|Zb 2 U<|Zv (sl_of ⟨_,Tryz.underlying56⟩ U)<|Zv (yge U U)<|Zn<|Zif U (fun h86=>?_) (fun h86=>?_)
  refine Zsr<|Zv (ydw 3 (m:=35) U U (Enc.len ..))<|Zm U<|Ze (esw 4 (m:=35) U U U U U (Enc.len ..) (Enc.allL ..))<|Zw0<|Zy U<|Znr<|Zr1<|Zr1 ?_
  refine Zr2<|Zr1<|Zr1<|Zr2<|Zr1 ?_
  rotate_left
  refine Zks<|Zb 2 U<|Zv (yea 6 hR2 U U U (by first | assumption | omega) U Tryz.underlying56 U)<|Zv (yel 6 hR2 U (gE (by first | assumption | omega)) U U U)<|Ze (esw 0 (m:=2) U U U U U (Enc.len ..) (Enc.allL ..))<|Zw0<|Zn ?_
  refine Zrg<|Zm U<|Zv (yadd U U (i64w U (by omega)))<|Zy U<|Zns<|Zv (ydw 3 (m:=35) U U (Enc.len ..))<|Zb 2 U ?_
  refine Zv (ydw 0 (m:=2) U U (Enc.len ..)) ?_
  rotate_left
  refine Zks<|Zv (ydw 3 (m:=35) U U (Enc.len ..))<|Zb 2 U<|Zv (ydw 0 (m:=2) U U U) ?_
  rotate_left
  ·have hd:al.drop p.1.at'=[]:=List.drop_eq_nil_of_le (by omega)
   have e:tolF code size most (hrt0 id) al []=(p.1.h,p.1.out):=by rw [hq,hd];exact tol_no hc hf2 (by rw [hf1];exact ask_e h82)
   rw [e] at hS
   refine Zre (.wh 4 (m:=35) U U (Enc.len ..) (.t U .n)) (hS _ _) [2,4,4] 4 U U U U
  ·have hat:p.1.at'<al.length:=by omega
   have hx:=hau _ (List.getElem_mem hat)
   rw [List.drop_eq_getElem_cons hat,tol_x hc hf2 (by rw [hf1];exact ask_e h82),hf1] at hq
   refine Zk (c48 ..) [] U U<|Zq<|Zb 3 U<|Ze (eal z59) fun b21=>Zw<|Ze (eal z49) fun b22=>Zw<|Ze (esw 1 (m:=35) U U U U U (Enc.len ..) (Enc.allL ..))<|Zw0<|Ze (esw 0 (m:=14) U U U U U (Enc.len ..) (Enc.allL ..))<|Zw0<|Znl ?_
   refine Zxs<|Zv (ydw 1 (m:=35) U U (Enc.len ..))<|Ze (esw 5 (m:=35) U U U U (Enc.len ..) (Enc.len ..) (Enc.allL ..))<|Zw0<|Zn<|Zrg<|Zm U<|Zv (ydw 0 (m:=14) U U (Enc.len ..))<|Ze (eb1 elCom (by decide) U) fun A106=>Zw ?_
   refine Ze (eap' 5 0 elCom U U U own.rd U U U (fun _ _=>U) (by have:=hp.lo;simp;omega) (hlm _ (by have:=hp.lo;have:=hp.le;simp;omega)))<|fun A' cap'=>Zw<|Zy U<|Znl<|Zxn<|Znx<|Zrg<|Zm U<|Zv (yadd U U (i64w U (by omega)))<|Zy U<|Znl ?_
   refine Zlr ⟨⟨p.1.i+1,p.1.at'+1,(cmtF p.1.h code[(p.1.h.pc.tdiv 4).toNat] size al[p.1.at']).1,p.1.out++[(cmtF p.1.h code[(p.1.h.pc.tdiv 4).toNat] size al[p.1.at']).2.1],A',cap'⟩,⟨hq,cmt_ok _ _ _ hp.ok,(by show p.1.i+1≤most;omega),hat,(by have:=hp.lo;simp;omega)⟩⟩ (by show most-(p.1.i+1)<most-p.1.i;omega) ⟨U,U,U,U,U,U,U,U,U,trivial⟩ [5,5] 5 U U
  ·rw [tol_0 hc hf2 (by rw [hf1];exact ask_f h82),hf1] at hq
   refine Zk (c48 p.1.h code[(p.1.h.pc.tdiv 4).toNat] size ans0) [] U U<|Zq<|Zb 3 U<|Ze (eal z59) fun b21=>Zw<|Ze (eal z49) fun b22=>Zw<|Ze (esw 1 (m:=35) U U U U U (Enc.len ..) (Enc.allL ..))<|Zw0<|Ze (esw 0 (m:=14) U U U U U (Enc.len ..) (Enc.allL ..))<|Zw0<|Znl ?_
   refine Zxs<|Zv (ydw 1 (m:=35) U U (Enc.len ..))<|Ze (esw 5 (m:=35) U U U U (Enc.len ..) (Enc.len ..) (Enc.allL ..))<|Zw0<|Zn<|Zrg<|Zm U<|Zv (ydw 0 (m:=14) U U (Enc.len ..))<|Ze (eb1 elCom (by decide) U) fun A106=>Zw ?_
   refine Ze (eap' 5 0 elCom U U U own.rd U U U (fun _ _=>U) (by have:=hp.lo;simp;omega) (hlm _ (by have:=hp.lo;have:=hp.le;simp;omega)))<|fun A' cap'=>Zw<|Zy U<|Znl<|Zxn<|Znx<|Zrg<|Zm U<|Zv (yadd U U (i64w U (by omega)))<|Zy U<|Znl ?_
   refine Zlr ⟨⟨p.1.i+1,p.1.at',(cmtF p.1.h code[(p.1.h.pc.tdiv 4).toNat] size ans0).1,p.1.out++[(cmtF p.1.h code[(p.1.h.pc.tdiv 4).toNat] size ans0).2.1],A',cap'⟩,⟨hq,cmt_ok _ _ _ hp.ok,(by show p.1.i+1≤most;omega),hp.la,(by have:=hp.lo;simp;omega)⟩⟩ (by show most-(p.1.i+1)<most-p.1.i;omega) ⟨U,U,U,U,U,U,U,U,U,trivial⟩ [5,5] 5 U U
 ·rw [Bool.and_eq_false_iff,decide_eq_false_iff_not,decide_eq_false_iff_not] at h32
  have e:tolF code size most (hrt0 id) al []=(p.1.h,p.1.out):=by rw [hp.eq];exact tol_stop (h32.resolve_left fun a=>a h28)
  rw [e] at hS
  refine Zre (.wh 2 (m:=35) U U (Enc.len ..) (.t U .n)) (hS _ _) [0,2,2] 2 U U U U
 ·have e:tolF code size most (hrt0 id) al []=(p.1.h,p.1.out):=by rw [hp.eq,show most-p.1.i=0 by omega];rfl
  rw [e] at hS
  refine Zre (.wh 2 (m:=35) U U (Enc.len ..) (.t U .n)) (hS _ _) [0,2,2] 2 U U U U
theorem c127n (c:Ck) (A:Option Addr) (cap:Nat) (pc:Int) (hp:0≤pc∧pc<4294967296):Sp Tryz.prog 127 [.slice A 0 cap,.int .u32 pc] [c] fun K=>K (.returned (.tuple #[.int .u32 0,.bool false])) [c]:=by
 have he:IntKind.u32.wrap (pc.tdiv 4)=pc/4:=by rw [td_u (m:=4) hp];exact w32_of ⟨by omega,by omega⟩
 refine Zen Tryz.func127 U U U fun e X Φ hS=>Zsr<|Zb 2 U<|Znqs<|Zm U<|Zv (yrem U U (by decide) U) ?_
 refine Zb 2 U<|Zgs U U (fun h9=>?_) (fun h9=>?_)
 refine Zu' U U (dT h9) U<|Zu' U U (dT h9) U<|Zu' U U (dT h9) U<|Zu' U U (dT h9) U<|Zu' U U (dT h9) U<|Zu' U U (dT h9) U<|Zv (ypt' U (dT h9) U)<|Zn<|Zct U ?_
 refine Zsr<|Zb 2 U<|Znr<|Zr1<|Zre (.t U (.t U .n)) hS [0] 0 U U U U
 refine Zg' U U (dF h9)<|Zm U<|Zg' U U (dF h9)<|Zv (yquo U U (by decide) U)<|Zg' U U (dF h9)<|Zv (ycv Tryz.underlying40 Tryz.underlying2 U (i64w U (by omega)))<|Zg' U U (dF h9)<|Zm U<|Zg' U U (dF h9)<|Zv (sl_of ⟨_,Tryz.underlying62⟩ U) ?_
 refine Zc 2 [] U U<|Zn<|Zib U (fun h16=>?_) (fun h16=>?_)
 refine Zsr<|Zb 2 U<|Znr<|Zr1<|Zre (.t U (.t U .n)) hS [0] 0 U U U U
 refine Zks<|Zb 2 U<|Zv (yquo U U (by decide) U) ?_
 rw [he,Bool.or_eq_false_iff,decide_eq_false_iff_not,decide_eq_false_iff_not] at h16
 exact absurd (show ((0:Nat):Int)≤pc/4 by omega) h16.2
theorem c127z (c:Ck) (A:Option Addr) (cap:Nat) (code:List Int) (pc:Int) (hR:code≠[]→Rd u32E c A cap code) (hp:0≤pc∧pc<4294967296) (hl:code.length≤1048576):Sp Tryz.prog 127 [.slice A code.length cap,.int .u32 pc] [c] fun K=>K (.returned (.tuple #[.int .u32 (fetF code pc).1,.bool (fetF code pc).2])) [c]:=by
 by_cases h:code=[]
 ·subst h
  have e:fetF [] pc=(0,false):=by unfold fetF;split <;> rfl
  rw [e]
  exact c127n c A cap pc hp
 ·exact c127 c A cap code pc (hR h) hp hl
theorem c44 (A:Option Addr) (ln cap:Nat) (size id most:Int) (h1:(ln:Int)≤1024:=by omega) (h2:0≤size∧size≤4096:=by omega) (h3:0≤id∧id<4:=by omega) (h4:0≤most∧most≤1048576:=by omega):Sp Tryz.prog 44 [.slice A ln cap,.int .i64 size,.int .i64 id,.int .i64 most] [] fun K=>K (.returned (.int .i64 0)) []:=by
 refine Zen Tryz.func44 U U U fun e X Φ hS=>Zsr<|Zy U<|Znq<|Zbl<|Zsr<|Zb 2 U ?_
 refine Zm U<|Zg' U U (dF (by omega))<|Zm U<|Zg' U U (dF (by omega))<|Zv (yge U U)<|Zv (ypf' U (dF (by omega)) U)<|Zm U<|Zg' U U (dF (by omega))<|Zm U<|Zg' U U (dF (by omega)) ?_
 refine Zv (sl_of ⟨_,Tryz.underlying62⟩ U)<|Zc 11 [] U U<|Zn<|Zib U (fun h9=>?_) (fun h9=>?_)
 refine Zsr<|Zy U<|Znr<|Zr2<|Zr1<|Zre (.t U .n) hS [] 0 ?_ U U U
 rotate_left
 refine Zsr<|Zb 3 U<|Zc 4 [] U U<|Zn<|Zib U (fun h29=>?_) (fun h29=>?_)
 refine Zsr<|Zy U<|Znr<|Zr2<|Zr1<|Zre (.t U .n) hS [] 0 ?_ U U U
 rotate_left
 refine Zsk<|Zxn<|Zxs<|Zy U<|Znr<|Zre (.t U .n) hS [] 0 U U U U
 all_goals
  exfalso
  simp only [Bool.or_eq_true,Bool.or_eq_false_iff,decide_eq_true_eq,decide_eq_false_iff_not] at *
  omega
theorem c128 (h:Hrt):Sp Tryz.prog 128 [.agg (hrtE.arr h)] [] fun K=>K (.returned (.tuple #[.agg (hrtE.arr (h.setCause 4)),.agg (comE.arr (comR h.pc))])) []:=by
 refine Zen Tryz.func128 U U U fun e X Φ hS=>Zsr<|Ze (ebxE U) fun b1=>Zw<|Ze (eal z59) fun b2=>Zw<|Ze (eal z49) fun b3=>Zw<|Zns<|Zv (yf 34 U)<|Ze (es 2 U U U (pt_cause _ _) U)<|Zw0 ?_
 refine Znq<|Zhd [1,0] U U<|Zht 0 U (ydw 0 (m:=35) U U (Enc.len ..))<|Zht 1 U (yf 1 U)<|Zht 2 U (yd 0 U U U)<|Zht 3 U (yb l49 U)<|ZH1 4<|Zoe U (esw 0 (m:=35) U U U U U (Enc.len ..) (Enc.allL ..))<|Zwh0 2 U<|ZH1 5<|Zoe U (esw 1 (m:=14) U U U U U U U)<|Zwh0 2 U ?_
 refine ZHn<|Zxr<|Zre (.wh 0 (m:=35) U U (Enc.len ..) (.wh 1 (m:=14) U U U .n)) hS [] 3 U U U U
theorem ask_t {k:Int} (h:(decide (k=0) || decide (k=2) || decide (k=6))=true):askK k=false:=by
 simp only [askK,Bool.or_eq_true,Bool.or_eq_false_iff,decide_eq_true_eq,decide_eq_false_iff_not] at *;omega
theorem ask_g {k:Int} (h:(decide (k=0) || decide (k=2) || decide (k=6))=false) (hk:0≤k∧k≤6):askK k=true:=by
 simp only [askK,Bool.or_eq_true,Bool.or_eq_false_iff,decide_eq_true_eq,decide_eq_false_iff_not] at *;omega
def tellA (al:List Ans) (at':Nat) (k:Int):Ans × Bool × Nat:=if askK k=false then (ans0,true,at') else match al[at']? with | some x=>(x,true,at'+1) | none=>(ans0,false,at')
theorem c45 (ba bs:Nat) (c:Ck) (B:Option Addr) (cB at':Nat) (al:List Ans) (a:Acc) (ka:0≤a.kind∧a.kind≤6) (hR:Rd ansE c B cB al) (ha:al.length≤1000) (hat:at'≤al.length):Sp Tryz.prog 45 [.agg (accE.arr a),pt ba,pt bs] [.blk ba 3 [.int .i64 (at':Int)],.blk bs 56 [.slice B al.length cB],c] fun K=>
  K (.returned (.tuple #[.agg (ansE.arr (tellA al at' a.kind).1),.bool (tellA al at' a.kind).2.1])) [.blk ba 3 [.int .i64 ((tellA al at' a.kind).2.2:Int)],.blk bs 56 [.slice B al.length cB],c]:=by
 refine Zen Tryz.func45 U U U fun e X Φ hS=>Zsr<|Ze (ebxE U) fun b3=>Zw<|Ze (eal z46) fun b4=>Zw<|Zy U<|Znqs<|Zv (yf 0 U) ?_
 refine Za 3 [1] U U<|Zc 9 [0,1,0,1] U U<|Zn<|Zib U (fun h18=>?_) (fun h18=>?_)
 refine Zsr<|Zv (yb l46 U)<|Ze (esw 0 (m:=2) U U U U U U U)<|Zw0<|Zy U<|Znr<|Zr1 ?_
 rotate_left
 refine Zkn<|Zsq<|Zsr<|Za 2 [2,3] U U<|Zv (sl_of ⟨_,Tryz.underlying56⟩ U)<|Zv (yge U U)<|Zn ?_
 refine Zif U (fun h23=>?_) (fun h23=>?_)
 refine Zsr<|Zv (yb l46 U)<|Ze (esw 0 (m:=2) U U U U U U U)<|Zw0<|Zy U<|Znr<|Zr1 ?_
 rotate_left
 refine Zks<|Zv (yd 2 U U U)<|Zv (yadd U U (i64w U (by omega)))<|Ze (es 2 U U U U U)<|Zw0<|Zns<|Zv (yd 3 U U U) ?_
 refine Zv (yd 2 U U U)<|Zv (ysub U U (i64w U (by omega))) ?_
 rotate_left
 ·rw [show tellA al at' a.kind=(ans0,true,at') from if_pos (ask_t h18)] at hS
  refine Zre (.wh 0 (m:=2) U U U (.t U .n)) hS [2,2,2] 2 U U U U
 ·rw [show tellA al at' a.kind=(ans0,false,at') from (if_neg (by rw [ask_g h18 ka];decide)).trans (by rw [List.getElem?_eq_none (by omega)])] at hS
  refine Zre (.wh 0 (m:=2) U U U (.t U .n)) hS [2,2,2] 2 U U U U
 ·rw [show (at':Int)+1-1=at' by omega]
  have hlt:at'<al.length:=by omega
  rw [show tellA al at' a.kind=(al[at'],true,at'+1) from (if_neg (by rw [ask_g h18 ka];decide)).trans (by rw [gE hlt])] at hS
  refine Zv (yea 4 hR U U U (by first | assumption | omega) U Tryz.underlying56 U)<|Zv (yel 4 hR U (gE (by first | assumption | omega)) U U U)<|Ze (esw 0 (m:=2) U U U U U (Enc.len ..) (Enc.allL ..))<|Zw0<|Zy U<|Znr<|Zre (.wh 0 (m:=2) U U (Enc.len ..) (.t U .n)) hS [2,2,2] 2 U U U U
abbrev Tk:=Com × Hrt × Nat
def trcF (code:List Int) (size:Int) (al:List Ans):Nat→Hrt→Nat→List Tk
 | 0,_,_=>[]
 | n+1,h,a=>if h.cause≠0 then [] else if (fetF code h.pc).2=false then [(comR h.pc,h.setCause 4,a)]
  else if askK (actF h (fetF code h.pc).1 size).1.kind=true then match al[a]? with
   | none=>[]
   | some x=>((cmtF h (fetF code h.pc).1 size x).2.1,(cmtF h (fetF code h.pc).1 size x).1,a+1)::trcF code size al n (cmtF h (fetF code h.pc).1 size x).1 (a+1)
  else ((cmtF h (fetF code h.pc).1 size ans0).2.1,(cmtF h (fetF code h.pc).1 size ans0).1,a)::trcF code size al n (cmtF h (fetF code h.pc).1 size ans0).1 a
def lastT (s:Hrt × Nat) (l:List Tk):Hrt × Nat:=(l.getLast?.map (·.2)).getD s
theorem lastT_snoc (s:Hrt × Nat) (l:List Tk) (x:Tk):lastT s (l++[x])=x.2:=by unfold lastT;rw [List.getLast?_concat];rfl
theorem lastT_cons (s:Hrt × Nat) (x:Tk) (l:List Tk):lastT s (x::l)=lastT x.2 l:=by
 unfold lastT
 rw [List.getLast?_cons]
 cases l.getLast? with
 | none=>rfl
 | some y=>rfl
section
variable {code:List Int} {size:Int} {n:Nat} {h:Hrt} {al:List Ans} {a:Nat}
theorem trc_stop (hc:h.cause≠0):trcF code size al n h a=[]:=by
 cases n with
 | zero=>rfl
 | succ n=>exact if_pos hc
theorem trc_none (hc:h.cause=0) (hf:(fetF code h.pc).2=false):trcF code size al (n+1) h a=[(comR h.pc,h.setCause 4,a)]:=(if_neg (fun a=>a hc)).trans (if_pos hf)
theorem trc_no (hc:h.cause=0) (hf:(fetF code h.pc).2=true) (ha:askK (actF h (fetF code h.pc).1 size).1.kind=true) (hn:al[a]? = none):trcF code size al (n+1) h a=[]:=(if_neg (fun a=>a hc)).trans ((if_neg (by rw [hf];decide)).trans ((if_pos ha).trans (by rw [hn])))
theorem trc_x {x:Ans} (hc:h.cause=0) (hf:(fetF code h.pc).2=true) (ha:askK (actF h (fetF code h.pc).1 size).1.kind=true) (hx:al[a]? = some x):trcF code size al (n+1) h a=((cmtF h (fetF code h.pc).1 size x).2.1,(cmtF h (fetF code h.pc).1 size x).1,a+1)::trcF code size al n (cmtF h (fetF code h.pc).1 size x).1 (a+1):=(if_neg (fun a=>a hc)).trans ((if_neg (by rw [hf];decide)).trans ((if_pos ha).trans (by rw [hx])))
theorem trc_0 (hc:h.cause=0) (hf:(fetF code h.pc).2=true) (ha:askK (actF h (fetF code h.pc).1 size).1.kind=false):trcF code size al (n+1) h a=((cmtF h (fetF code h.pc).1 size ans0).2.1,(cmtF h (fetF code h.pc).1 size ans0).1,a)::trcF code size al n (cmtF h (fetF code h.pc).1 size ans0).1 a:=(if_neg (fun a=>a hc)).trans ((if_neg (by rw [hf];decide)).trans (if_neg (by rw [ha];decide)))
theorem tol_trc:∀ (n:Nat) (h:Hrt) (a:Nat) (out:List Com),tolF code size n h (al.drop a) out=((lastT (h,a) (trcF code size al n h a)).1,out++(trcF code size al n h a).map (·.1))
 | 0,h,a,out=>by show (h,out)=(h,out++[]);rw [List.append_nil]
 | n+1,h,a,out=>by
  by_cases hc:h.cause=0
  ·cases hf:(fetF code h.pc).2 with
   | false=>rw [tol_none hc hf,trc_none hc hf];rfl
   | true=>
    cases ha:askK (actF h (fetF code h.pc).1 size).1.kind with
    | false=>
     rw [tol_0 hc hf ha,trc_0 hc hf ha,lastT_cons,tol_trc n _ a]
     simp
    | true=>
     cases hx:al[a]? with
     | none=>
      have hd:al.drop a=[]:=List.drop_eq_nil_of_le (List.getElem?_eq_none_iff.1 hx)
      rw [hd,tol_no hc hf ha,trc_no hc hf ha hx]
      show (h,out)=(h,out++[])
      rw [List.append_nil]
     | some x=>
      obtain ⟨hlt,rfl⟩:=List.getElem?_eq_some_iff.1 hx
      rw [List.drop_eq_getElem_cons hlt,tol_x hc hf ha,trc_x hc hf ha hx,lastT_cons,tol_trc n _ (a+1)]
      simp
  ·rw [tol_stop hc,trc_stop hc]
   show (h,out)=(h,out++[])
   rw [List.append_nil]
theorem tol_0_trc:tolF code size n h al []=((lastT (h,0) (trcF code size al n h 0)).1,(trcF code size al n h 0).map (·.1)):=by
 have:=tol_trc (code:=code) (size:=size) (al:=al) n h 0 []
 rwa [List.drop_zero,List.nil_append] at this
theorem trc_len:∀ (n:Nat) (h:Hrt) (a:Nat),(trcF code size al n h a).length≤n
 | 0,_,_=>Nat.le_refl _
 | n+1,h,a=>by
  unfold trcF
  split
  ·exact Nat.zero_le _
  ·split
   ·exact Nat.succ_le_succ (Nat.zero_le _)
   ·split
    ·split
     ·exact Nat.zero_le _
     ·exact Nat.succ_le_succ (trc_len n _ _)
    ·exact Nat.succ_le_succ (trc_len n _ _)
theorem trc_tell (hc:h.cause=0) (hf:(fetF code h.pc).2=true) (ht:(tellA al a (actF h (fetF code h.pc).1 size).1.kind).2.1=true):trcF code size al (n+1) h a =
  ((cmtF h (fetF code h.pc).1 size (tellA al a (actF h (fetF code h.pc).1 size).1.kind).1).2.1,(cmtF h (fetF code h.pc).1 size (tellA al a (actF h (fetF code h.pc).1 size).1.kind).1).1,(tellA al a (actF h (fetF code h.pc).1 size).1.kind).2.2) ::
  trcF code size al n (cmtF h (fetF code h.pc).1 size (tellA al a (actF h (fetF code h.pc).1 size).1.kind).1).1 (tellA al a (actF h (fetF code h.pc).1 size).1.kind).2.2:=by
 cases ha:askK (actF h (fetF code h.pc).1 size).1.kind with
 | false=>rw [show tellA al a (actF h (fetF code h.pc).1 size).1.kind=(ans0,true,a) from if_pos ha];exact trc_0 hc hf ha
 | true=>
  cases hx:al[a]? with
  | none=>
   rw [show tellA al a (actF h (fetF code h.pc).1 size).1.kind=(ans0,false,a) from (if_neg (by rw [ha];decide)).trans (by rw [hx])] at ht
   cases ht
  | some x=>
   rw [show tellA al a (actF h (fetF code h.pc).1 size).1.kind=(x,true,a+1) from (if_neg (by rw [ha];decide)).trans (by rw [hx])]
   exact trc_x hc hf ha hx
theorem trc_not (hc:h.cause=0) (hf:(fetF code h.pc).2=true) (ht:(tellA al a (actF h (fetF code h.pc).1 size).1.kind).2.1=false):trcF code size al (n+1) h a=[]:=by
 cases ha:askK (actF h (fetF code h.pc).1 size).1.kind with
 | false=>rw [show tellA al a (actF h (fetF code h.pc).1 size).1.kind=(ans0,true,a) from if_pos ha] at ht;cases ht
 | true=>
  cases hx:al[a]? with
  | none=>exact trc_no hc hf ha hx
  | some x=>
   rw [show tellA al a (actF h (fetF code h.pc).1 size).1.kind=(x,true,a+1) from (if_neg (by rw [ha];decide)).trans (by rw [hx])] at ht
   cases ht
theorem tell_le {k:Int} (ha:a≤al.length):(tellA al a k).2.2≤al.length:=by
 unfold tellA
 split
 ·exact ha
 ·split
  ·rename_i x hx
   exact (List.getElem?_eq_some_iff.1 hx).1
  ·exact ha
theorem cmt_cause {w:Int} {x:Ans} (hc:h.cause=0):(cmtF h w size x).2.1.cause=(cmtF h w size x).1.cause:=by
 have hg:goesF h=true:=dT hc
 rw [cmt_1 hg]
 show (actF h w size).2.1=(donF h w size (ansF (actF h w size).1 x)).1.cause
 by_cases he:(actF h w size).2.1=0
 ·rw [don_0 hg he,he]
  split
  ·exact hc.symm
  ·exact hc.symm
 ·rw [don_c hg he];rfl
theorem trc_end:∀ {n:Nat} {h:Hrt} {a:Nat} {l r:List Tk} {x:Tk},trcF code size al n h a=l++x::r→x.1.cause≠0→r=[]
 | 0,_,_,l,r,x,e,_=>by have:=congrArg List.length e;simp [trcF] at this
 | n+1,h,a,l,r,x,e,hx=>by
  by_cases hc:h.cause=0
  ·cases hf:(fetF code h.pc).2 with
   | false=>
    rw [trc_none hc hf] at e
    cases l with
    | nil=>exact (List.cons.inj e).2.symm
    | cons y l=>have:=congrArg List.length e;simp at this
   | true=>
    have key:∀ (y:Tk) (ts:List Tk),ts=trcF code size al n y.2.1 y.2.2→y.1.cause=y.2.1.cause→y::ts=l++x::r→r=[]:=fun y ts hts hy e=>by
     cases l with
     | nil=>
      obtain ⟨rfl,rfl⟩:=List.cons.inj e
      rw [hts,trc_stop (by rw [← hy];exact hx)]
     | cons z l=>
      obtain ⟨rfl,e2⟩:=List.cons.inj e
      exact trc_end (hts ▸ e2) hx
    cases ha:askK (actF h (fetF code h.pc).1 size).1.kind with
    | false=>rw [trc_0 hc hf ha] at e;exact key _ _ rfl (cmt_cause hc) e
    | true=>
     cases hx:al[a]? with
     | none=>rw [trc_no hc hf ha hx] at e;have:=congrArg List.length e;simp at this
     | some x=>rw [trc_x hc hf ha hx] at e;exact key _ _ rfl (cmt_cause hc) e
  ·rw [trc_stop hc] at e;have:=congrArg List.length e;simp at this
end
abbrev wTl (A:Option Addr) (n cap:Nat) (size:Int) (ba bs:Nat):List Value:=[.slice A n cap,.int .i64 size,.func (.func 45) #[] #[pt ba,pt bs]]
structure TrS where
 i:Nat
 pre:List Tk
 h:Hrt
 a:Nat
structure TrI (code:List Int) (size:Int) (al:List Ans) (most:Nat) (h0:Hrt) (p:TrS):Prop where
 eq:trcF code size al most h0 0=p.pre++trcF code size al (most-p.i) p.h p.a
 ls:lastT (h0,0) p.pre=(p.h,p.a)
 ok:p.h.Ok
 le:p.i≤most
 la:p.a≤al.length
theorem q126 (bm bw b ba bs:Nat) (c1 c2:Ck) (A B:Option Addr) (cap cB most:Nat) (code:List Int) (size:Int) (al:List Ans) (h0:Hrt) (hR:code≠[]→Rd u32E c1 A cap code) (hR2:Rd ansE c2 B cB al) (hl:code.length≤1048576) (hm:most≤1000) (ha:al.length≤1000) (ok:h0.Ok) :
  Sq Tryz.prog 126 [pt bm,pt bw] [.blk bm 3 [.int .i64 (most:Int)],.blk bw 121 [pt b],.blk b 123 (coreCs h0 (wTl A code.length cap size ba bs)),.blk ba 3 [.int .i64 ((0:Nat):Int)],.blk bs 56 [.slice B al.length cB],c1,c2,spC]
   (fun pre=>[.blk b 123 (coreCs (lastT (h0,0) pre).1 (wTl A code.length cap size ba bs)),c1,c2,spC]) (fun x=>[.agg (comE.arr x.1)]) (trcF code size al most h0 0):=by
 refine ⟨fun y J Jx hYd=>?_⟩
 refine Zen Tryz.func126 U U U fun e X Φ hS=>Zsr<|Zy U<|Znb ?_
 refine Zlq (ι:={ p:TrS // TrI code size al most h0 p }) (fun p=>[(4,.int .i64 (p.1.i:Int)),(0,.func (.yield y) #[] #[]),(1,pt bm),(2,pt bw)]) (fun p=>[.hp (J p.1.pre),.blk b 123 (coreCs p.1.h (wTl A code.length cap size ba bs)),.blk ba 3 [.int .i64 (p.1.a:Int)],.blk bm 3 [.int .i64 (most:Int)],.blk bw 121 [pt b],.blk bs 56 [.slice B al.length cB],c1,c2,spC]) (fun p=>most-p.1.i) ⟨⟨0,[],h0,0⟩,⟨U,U,ok,Nat.zero_le _,Nat.zero_le _⟩⟩ ⟨U,U,U,U,trivial⟩ [0,2,2,0,0,0,0,0,0] U fun p=>Zsq<|Zsr<|Za 4 [3] U U<|Zgs U U (fun h16=>?_) (fun h16=>?_)
 refine Zg' U U (dT h16)<|Zv (yd 4 U U U)<|Zg' U U (dT h16)<|Zv (yn U)<|Zg' U U (dT h16)<|Zv (yf 0 U)<|Zg' U U (dT h16)<|Zv (yf 34 U)<|Zg' U U (dT h16)<|Zv (yd 1 U U (nt_cca _ _)) ?_
 refine Zc 2 [] U U<|Zn<|Zib U (fun h23=>?_) (fun h23=>?_)
 refine Zkn<|Zsq<|Zbl<|Zsr<|Zv (yb l49 U)<|Ze (eal z49) fun b5=>Zw<|Ze (esw 0 (m:=14) U U U U U U U)<|Zw0<|Zn ?_
 refine Zsq ?_
 rotate_left
 refine Zex<|Zxt<|Zxt<|Zxx<|Zee ?_
 rotate_left
 refine Zu' U U (dF h16) U<|Zu' U U (dF h16) U<|Zu' U U (dF h16) U<|Zu' U U (dF h16) U<|Zu' U U (dF h16) U<|Zu' U U (dF h16) U<|Zv (ypf' U (dF h16) U)<|Zn<|Zcf U ?_
 refine Zex<|Zxt<|Zxt<|Zxx<|Zee ?_
 rotate_left
 ·have hp:=p.2
  have hok:=hp.ok
  have h23':=h23
  rw [Bool.and_eq_true,decide_eq_true_eq,decide_eq_true_eq] at h23'
  have hc:=h23'.2
  have heq:=hp.eq
  have hla:=hp.la
  rw [show most-p.1.i=(most-p.1.i-1)+1 by omega] at heq
  refine Zhd [7] U U<|Zht 0 U (yd 5 U U U)<|Zht 1 U (yn U)<|Zht 2 U (yf 35 U)<|Zht 3 U (yd 2 U U (nt_core 0 U U))<|Zht 4 U (yd 5 U U U)<|Zht 5 U (yn U)<|Zht 6 U (yf 0 U)<|Zht 7 U (yf 1 U)<|Zht 8 U (yd 2 U U U) ?_
  refine ZH1 9<|Zok (c127z c1 A cap code p.1.h.pc hR hok.pc hl) [0] U U U<|Zqh 1 U<|Zht 10 U (ym U)<|Zht 11 U (yx U U)<|Zht 12 U (yx U U)<|Zht 13 U (ya U)<|Zht 14 U (ya U)<|ZHn<|Zxq ?_
  refine Zsr<|Zb 2 U<|Zn<|Zib U (fun h41=>?_) (fun h41=>?_)
  refine Zsq ?_
  rotate_left
  refine Zkn<|Zsq ?_
  rotate_left
  ·refine Zhd [1,2] U U<|Zht 0 U (yd 4 U U U)<|Zht 1 U (yd 4 U U U)<|Zht 2 U (yn U)<|Zht 3 U (yf 0 U)<|ZH1 4<|Zov U (yda 1 (m:=35) U U (core_hart _ _) (Enc.len ..))<|ZH1 5<|Zok (c128 ..) [] U U U<|Zqh 2 U<|Zht 6 U (ym U)<|Zht 7 U (yx U U) ?_
   refine Zht 8 U (yx U U)<|Zht 9 U (yn U)<|Zht 10 U (yf 0 U) ?_
   refine ZH1 11<|Zoe U (esc 1 (m:=35) U U U (core_set _ _ _) U (Enc.len ..) (by rw [core_len rfl];exact Nat.le_of_ble_eq_true rfl) (Enc.allL ..))<|Zwh0 2 U<|ZH1 12<|Zoe U (esw 0 (m:=14) U U U U U (Enc.len ..) (Enc.allL ..))<|Zwh0 2 U<|ZHn<|Zxs<|Zm U<|Zv (ydw 0 (m:=14) U U (Enc.len ..)) ?_
   have hf:(fetF code p.1.h.pc).2=false:=by cases hq:(fetF code p.1.h.pc).2 <;> rw [hq] at h41 <;> first | rfl | cases h41
   rw [trc_none hc hf] at heq
   have hpre:p.1.pre++[(comR p.1.h.pc,p.1.h.setCause 4,p.1.a)] <+: trcF code size al most h0 0:=⟨[],by rw [List.append_nil];exact heq.symm⟩
   refine Zyd (hYd _ _ hpre) 3 U U U ?_ ?_
   refine Znr<|Zr1<|Zr2<|Zr1<|Zr1<|Zr2 ?_
   rotate_left
   refine Znr<|Zr1<|Zr2<|Zr1<|Zr1<|Zr2 ?_
   rotate_left
   ·have h1:=hS.1
    rw [heq,lastT_snoc] at h1
    refine Zre .n h1 [0,1,1,5,5] 5 U U U U
   ·have h2:=hS.2 _ hpre
    rw [lastT_snoc] at h2
    refine Zre .n h2 [0,1,1,5,5] 5 U U U U
  ·have hf2:(fetF code p.1.h.pc).2=true:=by cases hq:(fetF code p.1.h.pc).2 <;> rw [hq] at h41 <;> first | rfl | cases h41
   have hkk:=act_ok p.1.h (fetF code p.1.h.pc).1 size hok
   refine Zjm (ι:=Nat) (fun b8=>[(4,.int .i64 (p.1.i:Int)),(0,.func (.yield y) #[] #[]),(1,pt bm),(2,pt bw),(5,pt b5),(6,.int .u32 (fetF code p.1.h.pc).1),(8,pt b8)]) (fun b8=>[.blk b8 44 (accE.cells (actF p.1.h (fetF code p.1.h.pc).1 size).1),spC]) (c1 :: .blk b5 49 (comE.cells com0) :: .hp (J p.1.pre) :: .blk b 123 (coreCs p.1.h (wTl A code.length cap size ba bs)) :: .blk ba 3 [.int .i64 (p.1.a:Int)] :: .blk bm 3 [.int .i64 (most:Int)] :: .blk bw 121 [pt b] :: .blk bs 56 [.slice B al.length cB]::c2::X) ?_ fun b8=>?_
   rotate_left
   refine Zsq ?_
   rotate_left
   ·refine Zhd [9] U U<|Zht 0 U (yd 6 U U U)<|Zht 1 U (yn U)<|Zht 2 U (yf 0 U)<|Zht 3 U (yda 3 (m:=35) U U (core_hart _ _) (Enc.len ..))<|Zht 4 U (ym U)<|Zht 5 U (yd 6 U U U)<|Zht 6 U (yn U)<|Zht 7 U (yf 36 U)<|Zht 8 U (yd 3 U U (nt_core 1 U U)) ?_
    refine ZH2 9 14 (Zok (c129 ..) [0] U U U ?_) (Zoe U (eal z44) fun b8=>Zwh 2 U ?_)
    refine Zqh 1 U<|Zht 10 U (ym U)<|Zht 11 U (yx U U)<|Zht 12 U (yx U U)<|Zht 13 U (yx U U)<|ZH1 14<|Zoe U (eal z44) fun b8=>Zwh 2 U<|ZH1 15<|Zoe U (esw 0 (m:=7) U U U U U (Enc.len ..) (Enc.allL ..))<|Zwh0 2 U<|Zht 16 U (ya U)<|Zht 17 U (ya U)<|ZHn ?_
    rotate_left
    refine ZH1 9<|Zok (c129 ..) [1] U U U<|Zqh 2 U<|Zht 10 U (ym U)<|Zht 11 U (yx U U)<|Zht 12 U (yx U U)<|Zht 13 U (yx U U)<|ZH1 15<|Zoe U (esw 1 (m:=7) U U U U U (Enc.len ..) (Enc.allL ..))<|Zwh0 2 U<|Zht 16 U (ya U)<|Zht 17 U (ya U)<|ZHn ?_
    rotate_left
    ·refine Zjr b8 ⟨U,U,U,U,U,U,U,trivial⟩ [0,0] 0 U U
    ·refine Zjr b8 ⟨U,U,U,U,U,U,U,trivial⟩ [1,0] 0 U U
   ·
    refine Zjm (ι:=Nat) (fun b11=>[(4,.int .i64 (p.1.i:Int)),(0,.func (.yield y) #[] #[]),(1,pt bm),(2,pt bw),(5,pt b5),(6,.int .u32 (fetF code p.1.h.pc).1),(11,pt b11),(12,.bool (tellA al p.1.a (actF p.1.h (fetF code p.1.h.pc).1 size).1.kind).2.1)]) (fun b11=>[.blk b11 46 (ansE.cells (tellA al p.1.a (actF p.1.h (fetF code p.1.h.pc).1 size).1.kind).1),.blk ba 3 [.int .i64 ((tellA al p.1.a (actF p.1.h (fetF code p.1.h.pc).1 size).1.kind).2.2:Int)],.blk bs 56 [.slice B al.length cB],c2]) (.blk b8 44 (accE.cells (actF p.1.h (fetF code p.1.h.pc).1 size).1)::spC::c1 :: .blk b5 49 (comE.cells com0) :: .hp (J p.1.pre) :: .blk b 123 (coreCs p.1.h (wTl A code.length cap size ba bs)) :: .blk bm 3 [.int .i64 (most:Int)] :: .blk bw 121 [pt b]::X) ?_ fun b11=>?_
    rotate_left
    refine Zsq<|Zsr<|Zb 2 U<|Zn<|Zib U (fun h80=>?_) (fun h80=>?_)
    refine Zrt<|Zr1<|Zr2<|Zr1<|Zr1<|Zr2 ?_
    rotate_left
    refine Zkn<|Zsq ?_
    rotate_left
    ·refine Zhd [6,8,8] U U<|Zht 0 U (yd 7 U U U)<|Zht 1 U (yn U)<|Zht 2 U (yf 37 U)<|Zht 3 U (yd 5 U U (nt_core 2 U U))<|Zht 4 U (ydw 0 (m:=7) U U (Enc.len ..)) ?_
     refine ZH2 5 9 (Zokv (c45 ba bs c2 B cB p.1.a al (actF p.1.h (fetF code p.1.h.pc).1 size).1 ⟨hkk.k0,hkk.k1⟩ hR2 ha hla) [0,0,0] U U U U U ?_) (Zoe U (eal z46) fun b11=>Zwh 4 U ?_)
     refine Zqh 3 U<|Zht 6 U (ym U)<|Zht 7 U (yx U U)<|Zht 8 U (yx U U)<|ZH1 9<|Zoe U (eal z46) fun b11=>Zwh 4 U<|ZH1 10<|Zoe U (esw 0 (m:=2) U U U U U (Enc.len ..) (Enc.allL ..))<|Zwh0 4 U<|Zht 11 U (ya U)<|ZHn ?_
     rotate_left
     rotate_left
     ·refine Zjr b11 ⟨U,U,U,U,U,U,U,U,trivial⟩ [0,0,0,0] 0 U U
     ·refine ZH1 5<|Zokv (c45 ba bs c2 B cB p.1.a al (actF p.1.h (fetF code p.1.h.pc).1 size).1 ⟨hkk.k0,hkk.k1⟩ hR2 ha hla) [1,1,1] U U U U U<|Zqh 4 U<|Zht 6 U (ym U)<|Zht 7 U (yx U U)<|Zht 8 U (yx U U)<|ZH1 10<|Zoe U (esw 3 (m:=2) U U U U U (Enc.len ..) (Enc.allL ..))<|Zwh0 4 U<|Zht 11 U (ya U)<|ZHn ?_
      refine Zjr b11 ⟨U,U,U,U,U,U,U,U,trivial⟩ [3,0,0,0] 0 U U
    ·have ht:(tellA al p.1.a (actF p.1.h (fetF code p.1.h.pc).1 size).1.kind).2.1=false:=by cases hq:(tellA al p.1.a (actF p.1.h (fetF code p.1.h.pc).1 size).1.kind).2.1 <;> rw [hq] at h80 <;> first | rfl | cases h80
     rw [trc_not hc hf2 ht,List.append_nil] at heq
     have h1:=hS.1
     rw [heq,hp.ls] at h1
     refine Zre .n h1 [8,8,6,3,4] 7 U U U U
    ·have ht:(tellA al p.1.a (actF p.1.h (fetF code p.1.h.pc).1 size).1.kind).2.1=true:=by cases hq:(tellA al p.1.a (actF p.1.h (fetF code p.1.h.pc).1 size).1.kind).2.1 <;> rw [hq] at h80 <;> first | rfl | cases h80
     rw [trc_tell hc hf2 ht] at heq
     have hpre:p.1.pre++[((cmtF p.1.h (fetF code p.1.h.pc).1 size (tellA al p.1.a (actF p.1.h (fetF code p.1.h.pc).1 size).1.kind).1).2.1,(cmtF p.1.h (fetF code p.1.h.pc).1 size (tellA al p.1.a (actF p.1.h (fetF code p.1.h.pc).1 size).1.kind).1).1,(tellA al p.1.a (actF p.1.h (fetF code p.1.h.pc).1 size).1.kind).2.2)] <+: trcF code size al most h0 0:=⟨_,by rw [heq,List.append_assoc];rfl⟩
     refine Zhd [9,7,5] U U<|Zht 0 U (yd 8 U U U)<|Zht 1 U (yd 8 U U U)<|Zht 2 U (yn U)<|Zht 3 U (yf 0 U)<|Zht 5 U (ym U)<|Zht 6 U (yd 8 U U U)<|Zht 7 U (yn U)<|Zht 8 U (yf 36 U)<|Zht 10 U (ydw 0 (m:=2) U U (Enc.len ..)) ?_
     refine ZH2 4 9 (Zov U (yda 0 (m:=35) U U (core_hart _ _) (Enc.len ..)) ?_) (Zov U (yd 0 U U (nt_core 1 U U)) ?_)
     refine ZH1 9<|Zov U (yd 0 U U (nt_core 1 U U))<|ZH1 11<|Zok (c130 ..) [2] U U U<|Zqh 3 U<|Zht 12 U (ym U)<|Zht 13 U (yx U U)<|Zht 14 U (yx U U)<|Zht 15 U (yx U U)<|Zht 16 U (yn U)<|Zht 17 U (yf 0 U) ?_
     rotate_left
     refine ZH1 4<|Zov U (yda 0 (m:=35) U U (core_hart _ _) (Enc.len ..))<|ZH1 11<|Zok (c130 ..) [2] U U U<|Zqh 3 U<|Zht 12 U (ym U)<|Zht 13 U (yx U U)<|Zht 14 U (yx U U)<|Zht 15 U (yx U U)<|Zht 16 U (yn U)<|Zht 17 U (yf 0 U) ?_
     rotate_left
     ·refine ZH1 18<|Zoe U (esc 1 (m:=35) U U U (core_set _ _ _) U (Enc.len ..) (by rw [core_len rfl];exact Nat.le_of_ble_eq_true rfl) (Enc.allL ..))<|Zwh0 3 U<|ZH1 19<|Zoe U (esw 2 (m:=14) U U U U (Enc.len ..) (Enc.len ..) (Enc.allL ..))<|Zwh0 3 U<|ZHn<|Zxs<|Zm U<|Zv (ydw 2 (m:=14) U U (Enc.len ..)) ?_
      refine Zyd (hYd _ _ hpre) 9 U U U ?_ ?_
      refine Zv (ynot U)<|Zn<|Zcf U<|Zsk<|Zxn<|Znx<|Zrg<|Zm U<|Zv (yadd U U (i64w U (by omega))) ?_
      refine Zy U<|Znl ?_
      rotate_left
      refine Zv (ynot U)<|Zn<|Zct U<|Zrt<|Zr2<|Zr1<|Zr1<|Zr2 ?_
      rotate_left
      ·refine Zlr ⟨⟨p.1.i+1,p.1.pre++[((cmtF p.1.h (fetF code p.1.h.pc).1 size (tellA al p.1.a (actF p.1.h (fetF code p.1.h.pc).1 size).1.kind).1).2.1,(cmtF p.1.h (fetF code p.1.h.pc).1 size (tellA al p.1.a (actF p.1.h (fetF code p.1.h.pc).1 size).1.kind).1).1,(tellA al p.1.a (actF p.1.h (fetF code p.1.h.pc).1 size).1.kind).2.2)],(cmtF p.1.h (fetF code p.1.h.pc).1 size (tellA al p.1.a (actF p.1.h (fetF code p.1.h.pc).1 size).1.kind).1).1,(tellA al p.1.a (actF p.1.h (fetF code p.1.h.pc).1 size).1.kind).2.2⟩,⟨by rw [heq,List.append_assoc];rfl,lastT_snoc _ _ _,cmt_ok _ _ _ hp.ok,(by show p.1.i+1≤most;omega),tell_le hp.la⟩⟩ (by show most-(p.1.i+1)<most-p.1.i;omega) ⟨U,U,U,U,trivial⟩ [0,1,3,7,7,3,5,3,0] 3 U U
      ·have h2:=hS.2 _ hpre
       rw [lastT_snoc] at h2
       refine Zre .n h2 [0,1,7,5,0] 7 U U U U
     ·refine ZH1 18<|Zoe U (esc 1 (m:=35) U U U (core_set _ _ _) U (Enc.len ..) (by rw [core_len rfl];exact Nat.le_of_ble_eq_true rfl) (Enc.allL ..))<|Zwh0 3 U<|ZH1 19<|Zoe U (esw 2 (m:=14) U U U U (Enc.len ..) (Enc.len ..) (Enc.allL ..))<|Zwh0 3 U<|ZHn<|Zxs<|Zm U<|Zv (ydw 2 (m:=14) U U (Enc.len ..)) ?_
      refine Zyd (hYd _ _ hpre) 9 U U U ?_ ?_
      refine Zv (ynot U)<|Zn<|Zcf U<|Zsk<|Zxn<|Znx<|Zrg<|Zm U<|Zv (yadd U U (i64w U (by omega))) ?_
      refine Zy U<|Znl ?_
      rotate_left
      refine Zv (ynot U)<|Zn<|Zct U<|Zrt<|Zr2<|Zr1<|Zr1<|Zr2 ?_
      rotate_left
      ·refine Zlr ⟨⟨p.1.i+1,p.1.pre++[((cmtF p.1.h (fetF code p.1.h.pc).1 size (tellA al p.1.a (actF p.1.h (fetF code p.1.h.pc).1 size).1.kind).1).2.1,(cmtF p.1.h (fetF code p.1.h.pc).1 size (tellA al p.1.a (actF p.1.h (fetF code p.1.h.pc).1 size).1.kind).1).1,(tellA al p.1.a (actF p.1.h (fetF code p.1.h.pc).1 size).1.kind).2.2)],(cmtF p.1.h (fetF code p.1.h.pc).1 size (tellA al p.1.a (actF p.1.h (fetF code p.1.h.pc).1 size).1.kind).1).1,(tellA al p.1.a (actF p.1.h (fetF code p.1.h.pc).1 size).1.kind).2.2⟩,⟨by rw [heq,List.append_assoc];rfl,lastT_snoc _ _ _,cmt_ok _ _ _ hp.ok,(by show p.1.i+1≤most;omega),tell_le hp.la⟩⟩ (by show most-(p.1.i+1)<most-p.1.i;omega) ⟨U,U,U,U,trivial⟩ [0,1,3,7,7,3,5,3,0] 3 U U
      ·have h2:=hS.2 _ hpre
       rw [lastT_snoc] at h2
       refine Zre .n h2 [0,1,7,5,0] 7 U U U U
 ·have heq:=p.2.eq
  rw [Bool.and_eq_false_iff,decide_eq_false_iff_not,decide_eq_false_iff_not] at h23
  rw [trc_stop (h23.resolve_left fun a=>a h16),List.append_nil] at heq
  have h1:=hS.1
  rw [heq,p.2.ls] at h1
  refine Zre .n h1 [0,0,4,4,4] 4 U U U U
 ·have heq:=p.2.eq
  rw [show most-p.1.i=0 by omega,show trcF code size al 0 p.1.h p.1.a=[] from rfl,List.append_nil] at heq
  have h1:=hS.1
  rw [heq,p.2.ls] at h1
  refine Zre .n h1 [0,0,4,4,4] 4 U U U U
theorem c85 (b:Nat) (most:Int):Sp Tryz.prog 85 [pt b,.int .i64 most] [] fun K=>∀ bm bw,K (.returned (.func (.func 126) #[] #[pt bm,pt bw])) [.blk bm 3 [.int .i64 most],.blk bw 121 [pt b]]:=by
 refine Zen Tryz.func85 U U U fun e X Φ hS=>Zsr<|Ze (ebx U) fun b2=>Zw<|Ze (ebx U) fun b3=>Zw<|Zy U<|Zns<|Zv (yfn U U)<|Zy U ?_
 refine Znr<|Zre (.t U .n) (hS _ _) [0,0] 0 U U U U
theorem c46 (b ba bs:Nat) (c1 c2:Ck) (A B:Option Addr) (cap cB most:Nat) (code:List Int) (size:Int) (al:List Ans) (h0:Hrt) (hR:code≠[]→Rd u32E c1 A cap code) (hR2:Rd ansE c2 B cB al) (hl:code.length≤1048576) (hm:most≤1000) (ha:al.length≤1000) (ok:h0.Ok) :
  Sp Tryz.prog 46 [pt b,.int .i64 (most:Int)] [.blk b 123 (coreCs h0 (wTl A code.length cap size ba bs)),.blk ba 3 [.int .i64 ((0:Nat):Int)],.blk bs 56 [.slice B al.length cB],c1,c2,spC] fun K=>
   ∀ O cap',K (.returned (.tuple #[.agg (hrtE.arr (lastT (h0,0) (trcF code size al most h0 0)).1),.slice O ((trcF code size al most h0 0).map (·.1)).length cap',.int .i64 0])) [.hp (own comE O cap' ((trcF code size al most h0 0).map (·.1))),c1,c2,spC]:=by
 have hxl:=trc_len (code:=code) (size:=size) (al:=al) most h0 0
 refine ZenM Tryz.func46 U U U fun e X Φ hS=>Zsr<|Ze (eal z59) fun b4=>Zw<|Zb 2 U<|Zn<|Zscp<|Zsr<|Ze (eal z55) fun b7=>Zw ?_
 refine Znq<|Zlb<|Zxq<|Zsr<|Zb 2 U<|Zk (c85 ..) [] U U ?_
 refine fun bm=>fun bw=>Zq <| Znl <| Znx <| Zbl ?_
 refine Zfc [2] (coll_nil (E:=comE) (bo:=b7) (ts:=55)) U ?_
 refine Zrf (q126 bm bw b ba bs c1 c2 A B cap cB most code size al h0 hR hR2 hl hm ha ok) (fun pre=>[.hp (collC comE b7 55 (List.map (fun x:Tk=>x.1) pre))]) (fun _=>True) (fun _=>[]) (fun _=>False) (fun _ pre=>[.hp (collC comE b7 55 (List.map (fun x:Tk=>x.1) pre))]) (fun id pre=>id=0∧pre=trcF code size al most h0 0) [1,1,2,2,2,2,2,2,0] U U trivial (fun e' y pre x F hx hn=>?_) (fun D hn=>?_) (fun D pre hx hp=>hp.elim) (fun D id pre hx hp=>?_) (fun _=>U) (by decide)
 refine Zrg<|Ze (eal z49) fun b8=>Zw<|Ze (esw 0 (m:=14) U U U U U (Enc.len ..) (Enc.allL ..))<|Zw0<|Znl<|Zak 2 U fun F'=>Zbl<|Zsr ?_
 rotate_left
 refine Zxn<|Zxq ?_
 rotate_left
 refine Zex ?_
 rotate_left
 ·have hlen:=prefix_len hx
  refine Zol 1 coll_op U<|fun A2 cap2=>Zv (yd 0 U U U)<|Zv (ydw 2 (m:=14) U U (Enc.len ..))<|Ze (eb1 elCom (by decide) U) fun A15=>Zw ?_
  have hl3:(List.map (fun x:Tk=>x.1) pre).length+[x.1].length≤maxLen:=ml_le (by simp;omega)
  refine Ze (eap' 2 0 elCom U U U own.rd U U U (fun _ _=>U) (by simp;omega) hl3)<|fun A' cap'=>Zw<|Ze (es 1 U U U U U)<|Zw0<|Zns<|Za 3 [13,3] U U<|Zn ?_
  refine Zif U (fun h19=>?_) (fun h19=>?_)
  refine Zex<|Zxb U ?_
  rotate_left
  refine Zsk<|Zxn ?_
  rotate_left
  ·rw [show List.map (fun x:Tk=>x.1) pre++[x.1]=List.map (fun x:Tk=>x.1) (pre++[x]) by rw [List.map_append];rfl]
   refine Zfx [1,1] (coll_fold (bo:=b7) (ts:=55) (pre:=List.map (fun x:Tk=>x.1) (pre++[x])) U) U ?_
   have hend:pre++[x]=trcF code size al most h0 0:=by
    obtain ⟨r,hr⟩:=hx
    rw [List.append_assoc] at hr
    have hr0:r=[]:=trc_end (l:=pre) (x:=x) (r:=r) hr.symm h19
    rw [← hr,hr0]
    rfl
   refine Zrx ⟨U,hend⟩ [0] 2 U U
  ·rw [show List.map (fun x:Tk=>x.1) pre++[x.1]=List.map (fun x:Tk=>x.1) (pre++[x]) by rw [List.map_append];rfl]
   refine Zfx [1,1] (coll_fold (bo:=b7) (ts:=55) (pre:=List.map (fun x:Tk=>x.1) (pre++[x])) U) U<|Zrn trivial [0] 2 U U
 ·refine Zoc 1 coll_op U<|fun A2 cap2=>?_
  refine Zhf 6 [7] U U<|Zht 0 U (ym U)<|Zht 1 U (yn U)<|Zht 2 U (yf 0 U)<|Zht 3 U (yda 3 (m:=35) U U (core_hart _ _) (Enc.len ..))<|Zht 4 U (yd 0 U U U)<|ZH1 5<|Zoe U (esw 0 (m:=35) U U U U U (Enc.len ..) (Enc.allL ..))<|Zwh0 1 U<|ZHn<|Ztl U<|Ztv (ya U) ?_
  refine Ztv (ya U)<|Ztn<|Zxr<|Zgr<|Zmk 3 U<|Zre (.wh 0 (m:=35) U U (Enc.len ..) (.t U (.t U .n))) (hS _ _) [2,3,3,3] 3 U U U U
 ·obtain ⟨rfl,rfl⟩:=hp
  refine Zox 1 coll_op U<|fun A2 cap2=>Zxx<|Zxq ?_
  refine Zhf 6 [7] U U<|Zht 0 U (ym U)<|Zht 1 U (yn U)<|Zht 2 U (yf 0 U)<|Zht 3 U (yda 3 (m:=35) U U (core_hart _ _) (Enc.len ..))<|Zht 4 U (yd 0 U U U)<|ZH1 5<|Zoe U (esw 0 (m:=35) U U U U U (Enc.len ..) (Enc.allL ..))<|Zwh0 1 U<|ZHn<|Ztl U<|Ztv (ya U) ?_
  refine Ztv (ya U)<|Ztn<|Zxr<|Zgr<|Zmk 3 U<|Zre (.wh 0 (m:=35) U U (Enc.len ..) (.t U (.t U .n))) (hS _ _) [2,3,3,3] 3 U U U U
theorem c13 (c1 c2:Ck) (A B:Option Addr) (cap cB most:Nat) (code:List Int) (size id:Int) (al:List Ans) (hR:code≠[]→Rd u32E c1 A cap code) (hR2:Rd ansE c2 B cB al) (hl:code.length≤1024) (hs:0≤size∧size≤4096) (hm:most≤1000) (ha:al.length≤1000) (hid:0≤id∧id<4) :
  Sp Tryz.prog 13 [.slice A code.length cap,.int .i64 size,.int .i64 id,.int .i64 (most:Int),.slice B al.length cB] [c1,c2,spC] fun K=>∀ O cap',K (.returned (.tuple #[.agg (hrtE.arr (tolF code size most (hrt0 id) al []).1),.slice O (tolF code size most (hrt0 id) al []).2.length cap',.int .i64 0])) [.hp (own comE O cap' (tolF code size most (hrt0 id) al []).2),c1,c2,spC]:=by
 rw [tol_0_trc]
 refine Zen Tryz.func13 U U U fun e X Φ hS=>Zsr<|Ze (ebx U) fun b9=>Zw<|Ze (eal z59) fun b10=>Zw<|Zb 2 U<|Znqs ?_
 refine Zb 4 U<|Zk (c44 ..) [] U U<|Zq<|Zy U<|Zns ?_
 refine Zb 2 U<|Zn<|Zcf U<|Zks<|Ze (eal z3) fun b14=>Zw<|Ze (es 0 U U U U U)<|Zw0 ?_
 refine Zns<|Zv (yfn U U)<|Zy U<|Zns<|Zm U<|Zv (yb l59 U) ?_
 refine Zb 3 U<|Zv (yb l123 U)<|Ze (ebx U) fun b32=>Zw<|Zm U ?_
 refine Zk (c46 b32 b14 b9 c1 c2 A B cap cB most code size al (hrt0 id) hR hR2 (by omega) hm ha (hrt0_ok hid.1 hid.2)) [0,0,1,1,1,1] U U<|fun O=>fun cap'=>Zq<|Zb 3 U<|Ze (esw 4 (m:=35) U U U U U (Enc.len ..) (Enc.allL ..))<|Zw0<|Zb 2 U ?_
 refine Znr<|Zre (.wh 4 (m:=35) U U (Enc.len ..) (.t U (.t U .n))) (hS _ _) [0,0,0,0] 1 U U U U
def CmtRel (code:List Int) (size:Int) (h h':Hrt) (c:Com):Prop:=
 h.cause=0∧(((fetF code h.pc).2=false∧h'=h.setCause 4∧c=comR h.pc) ∨
  ((fetF code h.pc).2=true∧h.Ok∧∃ x,h'=(cmtF h (fetF code h.pc).1 size x).1∧c=(cmtF h (fetF code h.pc).1 size x).2.1))
def Tr (code:List Int) (size:Int) (h:Hrt):Hrt→List Com→Prop
 | h0,[]=>h0=h
 | h0,c::cs=>∃ h1,CmtRel code size h0 h1 c∧Tr code size h h1 cs
def anssOf (cs:List Com):List Ans:=(cs.filter fun c=>askK c.acc.kind).map (·.ans)
section
variable {code:List Int} {size:Int} {h h':Hrt} {c:Com}
theorem Tr.snoc:∀ {cs:List Com} {h0:Hrt},Tr code size h h0 cs→CmtRel code size h h' c→Tr code size h' h0 (cs++[c])
 | [],h0,t,r=>by cases t;exact ⟨h',r,rfl⟩
 | _::_,_,⟨h1,r1,t⟩,r=>⟨h1,r1,t.snoc r⟩
theorem ans_id {a:Acc} {x:Ans} (h0:0≤a.width) (h4:a.width≤4):ansF a (ansF a x)=ansF a x:=by
 unfold ansF
 by_cases h1:a.kind=1∨a.kind=3∨a.kind=5
 ·rw [if_pos h1,if_pos h1]
  congr 1
  obtain ⟨M,hM,hm⟩:∃ M:Int,w64 (1*2 ^ min (8*a.width).toNat IntKind.u64.bits)=M∧0<M∧M≤4294967296:=by
   have:a.width=0∨a.width=1∨a.width=2∨a.width=3∨a.width=4:=by omega
   rcases this with h | h | h | h | h <;> rw [h] <;> exact ⟨_,rfl,by decide,by decide⟩
  rw [hM]
  dsimp only
  have e:∀ v:Int,(w64 v).tmod M=w64 v%M:=fun v=>Int.tmod_eq_emod_of_nonneg (by rw [w64m];omega)
  rw [e,e]
  have hb:=Int.emod_nonneg (w64 x.value) (show M≠0 by omega)
  have hl:=Int.emod_lt_of_pos (w64 x.value) hm.1
  generalize w64 x.value%M=y at *
  rw [w32_of (x:=y) ⟨by omega,by omega⟩,show w64 y=y by rw [w64m];omega,Int.emod_eq_of_lt hb hl,w32_of ⟨by omega,by omega⟩]
 ·rw [if_neg h1,if_neg h1]
  by_cases h2:a.kind=4
  ·rw [if_pos h2,if_pos h2]
  ·rw [if_neg h2,if_neg h2]
theorem ans_0 {a:Acc} {x:Ans} (h:askK a.kind=false):ansF a x=ans0:=by
 simp only [askK,Bool.or_eq_false_iff,decide_eq_false_iff_not] at h
 unfold ansF
 rw [if_neg (by omega),if_neg (by omega)]
theorem cmt_eq {h0:Hrt} {w:Int} {x y:Ans} (hc:h0.cause=0) (e:ansF (actF h0 w size).1 x=ansF (actF h0 w size).1 y):cmtF h0 w size x=cmtF h0 w size y:=by
 have hg:goesF h0=true:=dT hc
 rw [cmt_1 hg,cmt_1 hg,e]
theorem Tr.tol:∀ {cs:List Com} {h0:Hrt} (out:List Com),Tr code size h h0 cs→tolF code size cs.length h0 (anssOf cs) out=(h,out++cs)
 | [],_,out,t=>by cases t;show (h,out)=(h,out++[]);rw [List.append_nil]
 | c::cs,h0,out,⟨h1,⟨hc,r⟩,t⟩=>by
  rcases r with ⟨hf,rfl,rfl⟩ | ⟨hf,ok,x,rfl,rfl⟩
  ·have hcs:cs=[]:=by
    cases cs with
    | nil=>rfl
    | cons d ds=>
     obtain ⟨_,⟨h4,_⟩,_⟩:=t
     exact absurd (show (4:Int)=0 from h4) (by decide)
   subst hcs
   cases t
   exact tol_none hc hf
  ·have hg:goesF h0=true:=dT hc
   have ha:(cmtF h0 (fetF code h0.pc).1 size x).2.1.acc=(actF h0 (fetF code h0.pc).1 size).1:=by rw [cmt_1 hg]
   have hn:(cmtF h0 (fetF code h0.pc).1 size x).2.1.ans=ansF (actF h0 (fetF code h0.pc).1 size).1 x:=by rw [cmt_1 hg]
   have hok:=act_ok h0 (fetF code h0.pc).1 size ok
   cases hk:askK (actF h0 (fetF code h0.pc).1 size).1.kind with
   | true=>
    have e1:anssOf ((cmtF h0 (fetF code h0.pc).1 size x).2.1::cs)=ansF (actF h0 (fetF code h0.pc).1 size).1 x::anssOf cs:=by
     unfold anssOf
     rw [List.filter_cons,if_pos (by rw [ha];exact hk),List.map_cons,hn]
    rw [e1,List.length_cons,tol_x hc hf hk,cmt_eq hc (ans_id hok.w0 hok.w1),t.tol,List.append_assoc]
    rfl
   | false=>
    have e1:anssOf ((cmtF h0 (fetF code h0.pc).1 size x).2.1::cs)=anssOf cs:=by
     unfold anssOf
     rw [List.filter_cons,if_neg (by rw [ha,hk];decide)]
    rw [e1,List.length_cons,tol_0 hc hf hk,cmt_eq hc (x:=ans0) (y:=x) (by rw [ans_0 hk,ans_0 hk]),t.tol,List.append_assoc]
    rfl
theorem Tr.u {cs:List Com}:∀ {h0:Hrt},Tr code size h h0 cs→∀ c∈cs,U32 c.ans.value:=by
 induction cs with
 | nil=>intro _ _ c hc;cases hc
 | cons c cs ih=>
  rintro h0 ⟨h1,⟨hc,r⟩,t⟩ d hd
  rcases List.mem_cons.1 hd with rfl | hd
  ·rcases r with ⟨_,_,e⟩ | ⟨_,_,x,_,e⟩
   ·rw [e];exact (⟨by decide,by decide⟩:U32 0)
   ·rw [e,cmt_1 (dT hc)];exact ans_u
  ·exact ih t d hd
theorem anss_u {cs:List Com} (h:∀ c∈cs,U32 c.ans.value):∀ x∈anssOf cs,U32 x.value:=fun x hx=>by
 unfold anssOf at hx
 rw [List.mem_map] at hx
 obtain ⟨c,hc,rfl⟩:=hx
 exact h c (List.mem_filter.1 hc).1
theorem anss_len {cs:List Com}:(anssOf cs).length≤cs.length:=by
 unfold anssOf
 rw [List.length_map]
 exact List.length_filter_le _ _
theorem anss_snoc {cs:List Com} {c:Com}:anssOf (cs++[c])=anssOf cs++(if askK c.acc.kind=true then [c.ans] else []):=by
 unfold anssOf
 rw [List.filter_append,List.map_append]
 congr 1
 by_cases h:askK c.acc.kind=true
 ·rw [if_pos h,List.filter_cons,if_pos h];rfl
 ·rw [if_neg h,List.filter_cons,if_neg h];rfl
theorem cmt_id {w:Int} {x:Ans} (hc:h.cause=0):(cmtF h w size x).1.id=h.id:=by
 have hg:goesF h=true:=dT hc
 rw [cmt_1 hg]
 show (donF h w size (ansF (actF h w size).1 x)).1.id=h.id
 by_cases he:(actF h w size).2.1=0
 ·rw [don_0 hg he]
  split <;> rfl
 ·rw [don_c hg he];rfl
end
def ArP (c:Cor) (w:Int) (r:ARes):Prop:=r.1.code=c.code∧r.1.size=c.size∧(match r.2.2 with
 | .ok d=>d.kind=1∧d.hart=r.1.h.id∧∃ x,r.1.h=(cmtF c.h w c.size x).1∧d.com=(cmtF c.h w c.size x).2.1
 | .error _=>r.1.h=c.h)
theorem done_p {c c0:Cor} {d:CD} {w:Int} {x:Ans} {o:Int} (h1:c0.h=c.h) (h2:c0.code=c.code) (h3:c0.size=c.size):ArP c w (doneR c0 d w x o):=by
 refine ⟨h2,h3,rfl,rfl,x,?_,?_⟩
 ·show (cmtF c0.h w c0.size x).1=_;rw [h1,h3]
 ·show (cmtF c0.h w c0.size x).2.1=_;rw [h1,h3]
theorem fail_p {c c0:Cor} {d:CD} {w:Int} {ms:List Msg} (h1:c0.h=c.h) (h2:c0.code=c.code) (h3:c0.size=c.size):ArP c w (failR c0 d ms):=⟨h2,h3,h1⟩
theorem act_p (c:Cor) (d:CD) (w pick:Int) (a:Acc):ArP c w (actR c d w pick a):=by
 unfold actR loadR storeR lrR scR amoR fenceR cachR askR
 repeat' split
 all_goals first | exact done_p rfl rfl rfl | exact fail_p rfl rfl rfl
structure CoP (c c':Cor) (dd:Did):Prop where
 code:c'.code=c.code
 size:c'.size=c.size
 id:c'.h.id=c.h.id
 y:dd.kind=1→dd.hart=c.h.id∧(c.h.Ok→CmtRel c.code c.size c.h c'.h dd.com)
 n:dd.kind≠1→c'.h=c.h
theorem go_p (c:Cor) (d:CD) (pick:Int):CoP c (goF c d pick).1 (goF c d pick).2.2.1:=by
 unfold goF
 by_cases hc:c.h.cause=0
 ·rw [if_neg (fun a=>a hc)]
  by_cases hf:(fetF c.code c.h.pc).2=false
  ·rw [if_pos hf]
   exact ⟨rfl,rfl,rfl,fun _=>⟨rfl,fun _=>⟨hc,.inl ⟨hf,rfl,rfl⟩⟩⟩,fun h=>absurd rfl h⟩
  ·rw [if_neg hf]
   have hf2:(fetF c.code c.h.pc).2=true:=by cases h:(fetF c.code c.h.pc).2 <;> simp_all
   obtain ⟨h1,h2,h3⟩:=act_p c d (fetF c.code c.h.pc).1 pick (actF c.h (fetF c.code c.h.pc).1 c.size).1
   generalize actR c d (fetF c.code c.h.pc).1 pick (actF c.h (fetF c.code c.h.pc).1 c.size).1=r at *
   obtain ⟨c',d',e⟩:=r
   cases e with
   | error ms=>exact ⟨h1,h2,congrArg Hrt.id h3,fun h=>absurd (show (0:Int)=1 from h) (by decide),fun _=>h3⟩
   | ok dd=>
    obtain ⟨k1,k2,x,e1,e2⟩:=h3
    have hi:c'.h.id=c.h.id:=(congrArg Hrt.id e1).trans (cmt_id hc)
    exact ⟨h1,h2,hi,fun _=>⟨k2.trans hi,fun ok=>⟨hc,.inr ⟨hf2,ok,x,e1,e2⟩⟩⟩,fun h=>absurd k1 h⟩
 ·rw [if_pos hc]
  exact ⟨rfl,rfl,rfl,fun h=>absurd (show (0:Int)=1 from h) (by decide),fun _=>rfl⟩
theorem drain_p (c:Cor) (d:CD) (pick:Int):(drainR c d pick).1.code=c.code∧(drainR c d pick).1.size=c.size∧(drainR c d pick).1.h=c.h∧(didOf c.h.id (drainR c d pick).2.2).kind≠1:=by
 unfold drainR
 split
 ·exact ⟨rfl,rfl,rfl,(by decide:(0:Int)≠1)⟩
 ·split
  ·exact ⟨rfl,rfl,rfl,(by decide:(0:Int)≠1)⟩
  ·exact ⟨rfl,rfl,rfl,(by decide:(2:Int)≠1)⟩
structure StP (m m':MD) (dd:Did):Prop where
 len:m'.C.length=m.C.length
 at_:∀ (i:Nat) (c:Cor),m.C[i]? = some c→∃ c',m'.C[i]? = some c'∧c'.code=c.code∧c'.size=c.size∧c'.h.id=c.h.id ∧
  ((dd.kind=1∧dd.hart=c.h.id→(c.h.Ok→CmtRel c.code c.size c.h c'.h dd.com))∧(¬ (dd.kind=1∧dd.hart=c.h.id)→c'.h=c.h))
def IdsOk (m:MD):Prop:=∀ (i:Nat) (c:Cor),m.C[i]? = some c→c.h.id=i
theorem StP.same {m m':MD} {dd:Did} (h:m'.C=m.C) (hd:dd.kind≠1):StP m m' dd:=⟨by rw [h],fun i c hc=>⟨c,by rw [h];exact hc,rfl,rfl,rfl,fun a=>absurd a.1 hd,fun _=>rfl⟩⟩
theorem StP.set {m m':MD} {dd:Did} {k:Nat} {c c':Cor} (hi:IdsOk m) (hk:m.C[k]? = some c) (h:m'.C=m.C.set k c') (hp:CoP c c' dd):StP m m' dd:=by
 refine ⟨by rw [h,List.length_set],fun i x hx=>?_⟩
 have hkl:=(List.getElem?_eq_some_iff.1 hk).1
 by_cases e:k=i
 ·subst e
  obtain rfl:c=x:=Option.some.inj (hk.symm.trans hx)
  refine ⟨c',by rw [h,List.getElem?_set_self hkl],hp.code,hp.size,hp.id,fun a=>(hp.y a.1).2,fun a=>?_⟩
  by_cases h1:dd.kind=1
  ·exact absurd ⟨h1,(hp.y h1).1⟩ a
  ·exact hp.n h1
 ·refine ⟨x,by rw [h,List.getElem?_set_ne e];exact hx,rfl,rfl,rfl,fun a=>?_,fun _=>rfl⟩
  have h1:=(hp.y a.1).1
  rw [a.2,hi i x hx,hi k c hk] at h1
  exact absurd (by omega:k=i) e
theorem lost_st (m:MD):∀ (n:Nat) (C:List Cor) (D:List CD) (i:Nat) (c:Cor),C[i]? = some c→∃ c',(lostL n C D)[i]? = some c'∧c'.code=c.code∧c'.size=c.size∧c'.h=c.h
 | 0,C,_,i,c,h=>⟨c,h,rfl,rfl,rfl⟩
 | _+1,[],_,i,c,h=>by simp at h
 | _+1,x::C,[],i,c,h=>⟨c,h,rfl,rfl,rfl⟩
 | n+1,x::C,d::D,0,c,h=>by
  cases h
  refine ⟨_,rfl,?_,?_,?_⟩ <;> (unfold Cor.setR;split <;> rfl)
 | n+1,x::C,d::D,i+1,c,h=>lost_st m n C D i c h
theorem step_st {m:MD} (x:Cho) (hi:IdsOk m):StP m (stepK m x).1 (stepK m x).2:=by
 have h0:did0.kind≠1:=by decide
 unfold stepK
 split
 ·unfold goM
  split
  ·rename_i c d hc hd
   exact StP.set hi hc rfl (go_p c d x.pick)
  ·exact StP.same rfl h0
 ·split
  ·unfold drainM
   split
   ·rename_i c d hc hd
    obtain ⟨h1,h2,h3,h4⟩:=drain_p c d x.pick
    exact StP.set hi hc rfl ⟨h1,h2,congrArg Hrt.id h3,fun a=>absurd a h4,fun _=>h3⟩
   ·exact StP.same rfl h0
  ·split
   ·refine StP.same ?_ h0
    show (delivM m x.pick).C=m.C
    unfold delivM
    split
    ·unfold takM
     repeat' split
     all_goals rfl
    ·rfl
   ·split
    ·refine StP.same ?_ h0
     show (evictM m _ x.pick).C=m.C
     unfold evictM
     split <;> rfl
    ·show StP m (spoilF m _) did0
     unfold spoilF
     split
     ·rename_i c hc
      exact StP.set hi hc rfl ⟨rfl,rfl,rfl,fun a=>absurd a h0,fun _=>rfl⟩
     ·exact StP.same rfl h0
def comsN (n:Nat) (l:List Did):List Com:=(l.filter fun d=>decide (d.hart=(n:Int)) && decide (d.kind=1)).map (·.com)
theorem coms_snoc {n:Nat} {l:List Did} {d:Did}:comsN n (l++[d])=comsN n l++(if d.hart=(n:Int)∧d.kind=1 then [d.com] else []):=by
 unfold comsN
 rw [List.filter_append,List.map_append]
 congr 1
 by_cases h:d.hart=(n:Int)∧d.kind=1
 ·rw [if_pos h,List.filter_cons,if_pos (by rw [dT h.1,dT h.2];rfl)];rfl
 ·rw [if_neg h,List.filter_cons,if_neg (by rw [Bool.and_eq_true,decide_eq_true_eq,decide_eq_true_eq];exact h)];rfl
def RunA (m0:MD) (s:MD × List Did):Prop:=s.1.C.length=m0.C.length∧∀ (i:Nat) (c0:Cor),m0.C[i]? = some c0→∃ c,s.1.C[i]? = some c∧c.code=c0.code∧c.size=c0.size∧c.h.id=i∧c.h.Ok∧Tr c0.code c0.size c.h c0.h (comsN i s.2)
theorem cmt_ok' {code:List Int} {size:Int} {h h':Hrt} {c:Com} (ok:h.Ok) (r:CmtRel code size h h' c):h'.Ok:=by
 obtain ⟨_,⟨_,rfl,_⟩ | ⟨_,_,x,rfl,_⟩⟩:=r
 ·exact ok.setCause (by decide) (by decide)
 ·exact cmt_ok _ _ _ ok
theorem run_step {m0:MD} {s:MD × List Did} (x:Cho) (h:RunA m0 s):RunA m0 (runF s x):=by
 have hids:IdsOk s.1:=fun i c hc=>by
  have hl:=(List.getElem?_eq_some_iff.1 hc).1
  obtain ⟨c',h1,_,_,h2,_⟩:=h.2 i _ (List.getElem?_eq_getElem (by rw [← h.1];exact hl))
  cases hc.symm.trans h1
  exact h2
 have hs:=step_st x hids
 have hl:(runF s x).1.C.length=(stepK s.1 x).1.C.length:=by
  show (lostL _ _ _).length=_
  rw [lost_len]
 refine ⟨hl.trans (hs.len.trans h.1),fun i c0 hc0=>?_⟩
 obtain ⟨c,h1,h2,h3,h4,h5,h6⟩:=h.2 i c0 hc0
 obtain ⟨c1,k1,k2,k3,k4,k5,k6⟩:=hs.at_ i c h1
 obtain ⟨c2,j1,j2,j3,j4⟩:=lost_st (stepK s.1 x).1 (stepK s.1 x).1.C.length (stepK s.1 x).1.C (stepK s.1 x).1.D i c1 k1
 refine ⟨c2,j1,(j2.trans k2).trans h2,(j3.trans k3).trans h3,by rw [j4,k4,h4],?_,?_⟩
 ·rw [j4]
  by_cases hd:(stepK s.1 x).2.kind=1∧(stepK s.1 x).2.hart=c.h.id
  ·exact cmt_ok' h5 (k5 hd h5)
  ·rw [k6 hd];exact h5
 ·rw [j4]
  show Tr c0.code c0.size c1.h c0.h (comsN i (if (stepK s.1 x).2.kind≠0 then s.2++[(stepK s.1 x).2] else s.2))
  by_cases hd:(stepK s.1 x).2.kind=1∧(stepK s.1 x).2.hart=c.h.id
  ·rw [if_pos (by rw [hd.1];decide),coms_snoc,if_pos ⟨by rw [hd.2,h4],hd.1⟩]
   have r:=k5 hd h5
   rw [h2,h3] at r
   exact h6.snoc r
  ·rw [k6 hd]
   split
   ·rw [coms_snoc,if_neg fun a=>hd ⟨a.2,by rw [a.1,h4]⟩,List.append_nil];exact h6
   ·exact h6
theorem runs_a {m0:MD}:∀ (l:List Cho) {s:MD × List Did},RunA m0 s→RunA m0 (l.foldl runF s)
 | [],_,h=>h
 | x::l,_,h=>runs_a l (run_step x h)
theorem coms_take {n:Nat} {l:List Did} {i:Nat} (h:i<l.length):comsN n (l.take (i+1))=comsN n (l.take i)++(if l[i].hart=(n:Int)∧l[i].kind=1 then [l[i].com] else []):=by rw [← take_snc (gE h),coms_snoc]
theorem coms_no {n:Nat} {l:List Did} {i:Nat} (h:i<l.length) (hn:¬ (l[i].hart=(n:Int)∧l[i].kind=1)):comsN n (l.take (i+1))=comsN n (l.take i):=by rw [coms_take h,if_neg hn,List.append_nil]
theorem coms_len {n:Nat} {l:List Did}:(comsN n l).length≤l.length:=by
 unfold comsN
 rw [List.length_map]
 exact List.length_filter_le _ _
theorem run_alone {m0:MD} {l:List Cho} (h0:∀ (i:Nat) (c0:Cor),m0.C[i]? = some c0→c0.h.id=i∧c0.h.Ok) {i:Nat} {c0:Cor} (hc:m0.C[i]? = some c0):∃ c,(runM m0 l).1.C[i]? = some c ∧
  tolF c0.code c0.size (comsN i (runM m0 l).2).length c0.h (anssOf (comsN i (runM m0 l).2)) []=(c.h,comsN i (runM m0 l).2)∧∀ x∈anssOf (comsN i (runM m0 l).2),U32 x.value:=by
 have h1:RunA m0 (m0,[]):=⟨rfl,fun i c hc=>⟨c,hc,rfl,rfl,(h0 i c hc).1,(h0 i c hc).2,rfl⟩⟩
 obtain ⟨c,k1,_,_,_,_,k2⟩:=(runs_a l h1).2 i c0 hc
 exact ⟨c,k1,k2.tol [],anss_u k2.u⟩
theorem c13p {p q:HP} (a:Arg p q) (c2:Ck) (A B:Option Addr) (cap cB most:Nat) (code:List Int) (size id:Int) (al:List Ans) (hR:code≠[]→Rd u32E (.hp q) A cap code) (hR2:Rd ansE c2 B cB al) (hl:code.length≤1024) (hs:0≤size∧size≤4096) (hm:most≤1000) (ha:al.length≤1000) (hid:0≤id∧id<4) (h:Hrt) (cs:List Com) (ht:tolF code size most (hrt0 id) al []=(h,cs)) :
  Sp Tryz.prog 13 [.slice A code.length cap,.int .i64 size,.int .i64 id,.int .i64 (most:Int),.slice B al.length cB] [.hp p,c2] fun K=>∀ O cap',K (.returned (.tuple #[.agg (hrtE.arr h),.slice O cs.length cap',.int .i64 0])) [.hp (own comE O cap' cs),.hp p,c2]:=
 ⟨fun e X w Φ hp hS=>(c13 (.hp q) c2 A B cap cB most code size id al hR hR2 hl hs hm ha hid).run e X w Φ ((hp.imp fun _ hs=>a.un hs).sel (is:=[1,1,0]) rfl) (by
  rw [ht]
  exact fun O cap' w' hw=>hS O cap' w' (((hw.sel (is:=[3,1,0,0]) rfl).imp fun _ hs=>a.re hs).sel (is:=[1,0,0]) rfl))⟩
theorem len_C (x:Wld):x.m.C.length=x.l.length:=by show ((List.range (cdsOf x.l).length).map _).length=_;rw [List.length_map,List.length_range,List.length_map]
theorem code_le {x:Wld} (h:x.ok=true) {i:Nat} (hi:i<x.l.length):x.l[i].2.2.length≤1024:=by
 unfold Wld.ok newOk at h
 simp only [Bool.and_eq_true] at h
 have:=List.all_eq_true.1 h.2.2 x.l[i].2.2 (List.mem_map.2 ⟨x.l[i],List.getElem_mem hi,rfl⟩)
 exact of_decide_eq_true this
theorem new_h0 (x:Wld) (hn4:x.m.C.length≤4):∀ (i:Nat) (c0:Cor),x.m.C[i]? = some c0→c0.h.id=i∧c0.h.Ok:=fun i c0 h=>by
 have hlt:=(List.getElem?_eq_some_iff.1 h).1
 have hl:i<x.l.length:=by have:=len_C x;omega
 have:=newM_C (bs:=x.bs) (sets:=x.sets) (ways:=x.ways) hl
 cases h.symm.trans this
 exact ⟨rfl,hrt0_ok (by omega) (by omega)⟩
structure DnS where
 i:Nat
 O:Option Addr
 c:Nat
 O2:Option Addr
 c2:Nat
theorem c4 (p q:HP) (a:Arg p q) (x:Wld) (hx:x.In (.hp p)) (hxq:∀ t∈x.l,t.2.1≠0→Rd u32E (.hp q) t.1 t.2.1 t.2.2) (C:Option Addr) (capc:Nat) (ls:List Cho) (hR:Rd choE (.hp q) C capc ls) (hR2:Rd choE (.hp p) C capc ls) (hl:∀ y∈ls,ChoIn y) (hc1:ls.length≤capc):Sp Tryz.prog 4 [.agg x.cells.toArray,.slice C ls.length capc] [.hp p] fun K=>K (.returned (.bool true)) [.hp p]:=by
 refine Zen Tryz.func4 U U U fun e X Φ hS=>Zsr<|Ze (ebx U) fun b2=>Zw<|Zy U<|Zns<|Zv (ydw 0 (m:=4) U U U) ?_
 refine Zk (c7 (.hp p) x hx) [1] U U<|⟨?_,?_⟩
 refine fun a_1=>fun b=>fun bi=>Zq <| Zv (ym rfl) <| Zv (yx rfl rfl) <| Zv (yx rfl rfl) <| Zv (ya rfl) <| Zv (ya rfl) <| Znl ?_
 refine Zxq<|Zsr<|Zv (ydw 3 (m:=4) U U U)<|Zm U ?_
 rotate_left
 refine fun a_1=>Zq <| Zv (ym rfl) <| Zv (yx rfl rfl) <| Zv (yx rfl rfl) <| Zv (ya rfl) <| Zv (ya rfl) <| Znl <| Znx <| Zsq ?_
 refine Zsr<|Zv (ydw 1 (m:=4) U U U)<|Zm U ?_
 rotate_left
 ·refine Zk (c8 (.hp p) x hx C capc ls.length) [2] U U<|⟨?_,?_⟩
  refine Zq<|Zb 4 U<|Zn<|Zct U<|Zsr ?_
  rotate_left
  refine fun a_2=>Zq <| Zv (ym rfl) <| Zg rfl rfl <| Zv (ym rfl) <| Zg rfl rfl <| Zv (ypeq rfl rfl rfl) <| Zv (ypf rfl rfl) <| Znl <| Znx ?_
  refine Zcf U<|Zks<|Zb 2 U ?_
  rotate_left
  ·refine Zk (c9p a) [0] U U<|Zq<|Zy U<|Znr<|Zr1<|Zre (.t U .n) hS [0] 3 U U U U
  ·obtain ⟨hin,hn4⟩:x.m.In∧x.m.C.length≤4:=newM_in (by unfold Wld.ok at a_1;simp only [Bool.and_eq_true] at a_1;exact a_1.2)
   have hn2:=a_2.n
   refine Zk (c10p a 0 b x.m C capc ls hR (by omega) hl hin hn4) [1,0] U U<|⟨?_,?_⟩
   refine fun a_3=>fun A'=>fun cap'=>Zq <| Zv (ym rfl) <| Zv (yx rfl rfl) <| Zv (yx rfl rfl) <| Zv (ya rfl) <| Zv (ya rfl) <| Znl ?_
   refine Zxq<|Zsr<|Zb 2 U<|Zn<|Zcf U<|Zkn ?_
   refine Zsq<|Zsr<|Zy U<|Znb ?_
   rotate_left
   refine fun a_3=>Zq <| Zv (ym rfl) <| Zv (yx rfl rfl) <| Zv (yx rfl rfl) <| Zv (ya rfl) <| Zv (ya rfl) <| Znl <| Znx <| Zsq ?_
   refine Zsr<|Zb 2 U<|Zn<|Zct U<|Zsr<|Zb 3 U ?_
   refine Zb 1 U<|Zg U U<|Zv (sl_of ⟨_,Tryz.underlying33⟩ U)<|Zb 3 U<|Zg U U ?_
   rotate_left
   ·have hd1:=run_dl x.m ls
    generalize hall:(runM x.m ls).2=al at hd1 ⊢
    generalize hmm:(runM x.m ls).1=mm
    refine Zlq (ι:={ n:Nat // n≤x.l.length }) (fun n=>[(9,.int .i64 (n.1:Int)),(7,.slice A' al.length cap'),(5,pt b),(2,pt b2)]) (fun _=>[.hp (own didE A' cap' al),.hp (machC (0+ls.length) b mm),.hp p]) (fun n=>x.l.length-n.1) ⟨0,Nat.zero_le _⟩ ⟨U,U,U,U,trivial⟩ [0,0,0] U fun n=>Zsq<|Zsr<|Za 3 [0,4] U U<|Zv (sl_of ⟨_,Tryz.underlying22⟩ U)<|Zv (ylt U U)<|Zn ?_
    refine Zif U (fun h56=>?_) (fun h56=>?_)
    refine Zkn<|Zsq<|Zbl<|Zsr<|Zy U<|Zns<|Zy U ?_
    refine Znqs<|Zy U<|Znb ?_
    rotate_left
    refine Zex<|Zxt<|Zxt<|Zxx<|Zxs ?_
    rotate_left
    ·have hn:n.1<x.l.length:=by omega
     refine Zic (fun _ hs=>sep_nil (E:=comE) hs)<|Zic (fun _ hs=>sep_nil (E:=ansE) hs) ?_
     refine Zlq (ι:={ s:DnS // s.i≤al.length }) (fun s=>[(12,.int .i64 (s.1.i:Int)),(10,.slice s.1.O (comsN n.1 (al.take s.1.i)).length s.1.c),(11,.slice s.1.O2 (anssOf (comsN n.1 (al.take s.1.i))).length s.1.c2),(9,.int .i64 (n.1:Int)),(7,.slice A' al.length cap'),(5,pt b),(2,pt b2)]) (fun s=>[.hp (own comE s.1.O s.1.c (comsN n.1 (al.take s.1.i))),.hp (own ansE s.1.O2 s.1.c2 (anssOf (comsN n.1 (al.take s.1.i)))),.hp (own didE A' cap' al)]) (fun s=>al.length-s.1.i) ⟨⟨0,none,0,none,0⟩,Nat.zero_le _⟩ ⟨U,U,U,U,U,U,U,trivial⟩ [1,0,0] U fun s=>Zsq<|Zsr<|Zb 2 U<|Zv (sl_of ⟨_,Tryz.underlying33⟩ U)<|Zv (ylt U U)<|Zn<|Zif U (fun h62=>?_) (fun h62=>?_)
     refine Zkn<|Zsq<|Zbl<|Zsq<|Zsr<|Zb 2 U<|Zv (yea 2 own.rd U U U (by first | assumption | omega) U Tryz.underlying33 U)<|Zv (yf 1 U) ?_
     refine Zv (yec 2 own.rd U (gE (by first | assumption | omega)) U U U)<|Zb 3 U<|Zgs U U (fun h72=>?_) (fun h72=>?_)
     refine Zu' U U (dT h72) U<|Zu' U U (dT h72) U<|Zu' U U (dT h72) U<|Zu' U U (dT h72) U<|Zu' U U (dT h72) U<|Zu' U U (dT h72) U<|Zv (ypt' U (dT h72) U)<|Zn<|Zct U ?_
     refine Zex<|Zxt<|Zxx<|Znx<|Zrg<|Zm U<|Zv (yadd U U (i64w U (by omega)))<|Zy U<|Znl ?_
     rotate_left
     refine Zg' U U (dF h72)<|Zm U<|Zg' U U (dF h72)<|Zm U<|Zg' U U (dF h72)<|Zv (yea 2 own.rd U U U (by first | assumption | omega) U Tryz.underlying33 U)<|Zg' U U (dF h72)<|Zv (yf 0 U)<|Zg' U U (dF h72)<|Zv (yec (m:=0) 2 own.rd U (gE (by first | assumption | omega)) U U U) ?_
     refine Zc 2 [] U U<|Zn<|Zib U (fun h79=>?_) (fun h79=>?_)
     refine Zex<|Zxt<|Zxx<|Znx<|Zrg<|Zm U<|Zv (yadd U U (i64w U (by omega)))<|Zy U<|Znl ?_
     rotate_left
     refine Zks<|Zb 2 U<|Zv (yea 2 own.rd U U U (by first | assumption | omega) U Tryz.underlying33 U)<|Zv (yf 2 U) ?_
     rotate_left
     refine Zex<|Zxt<|Zxt<|Zxx<|Zxq ?_
     rotate_left
     ·have hi:s.1.i<al.length:=by omega
      rw [← coms_no (n:=n.1) hi fun h=>h72 h.1]
      refine Zlr ⟨⟨s.1.i+1,s.1.O,s.1.c,s.1.O2,s.1.c2⟩,hi⟩ (by show al.length-(s.1.i+1)<al.length-s.1.i;omega) ⟨U,U,U,U,U,U,U,trivial⟩ [0,0,0] 0 U U
     ·have hi:s.1.i<al.length:=by omega
      rw [← coms_no (n:=n.1) hi fun h=>by rw [dF h72,dF fun a=>a h.2] at h79;cases h79]
      refine Zlr ⟨⟨s.1.i+1,s.1.O,s.1.c,s.1.O2,s.1.c2⟩,hi⟩ (by show al.length-(s.1.i+1)<al.length-s.1.i;omega) ⟨U,U,U,U,U,U,U,trivial⟩ [0,0,0] 0 U U
     ·have hi:s.1.i<al.length:=by omega
      have hk:al[s.1.i].hart=(n.1:Int)∧al[s.1.i].kind=1:=⟨Classical.not_not.1 h72,by rw [dF h72,Bool.false_or,decide_eq_false_iff_not] at h79;exact Classical.not_not.1 h79⟩
      have hcs:=coms_take (n:=n.1) hi
      rw [if_pos hk] at hcs
      have hcl:(comsN n.1 (al.take s.1.i)).length≤s.1.i:=Nat.le_trans coms_len (by rw [List.length_take];omega)
      refine Zv (yem 2 own.rd U (gE hi) U U (vs:=comE.cells al[s.1.i].com) U U)<|Ze (eal z49) fun b13=>Zw<|Ze (esw 0 (m:=14) U U U U U (Enc.len ..) (Enc.allL ..))<|Zw0<|Zns<|Zm U<|Zv (ydw 0 (m:=14) U U (Enc.len ..))<|Ze (eb1 elCom (by decide) U) fun A87=>Zw ?_
      have hac:=@anss_snoc (comsN n.1 (al.take s.1.i)) al[s.1.i].com
      rw [← hcs] at hac
      have hla:=@anss_len (comsN n.1 (al.take s.1.i))
      refine Ze (eap' 2 0 elCom U U U own.rd U U U (fun _ _=>U) (by simp;omega) (ml_le (by simp;omega)))<|fun O' c'=>Zw<|Zy U<|Zns<|Za 4 [2,0,1] U U<|Znl ?_
      refine Zxs<|Zb 3 U<|Zc 11 [] U U<|Zn<|Zib U (fun h105=>?_) (fun h105=>?_)
      refine Zrg<|Za 2 [9] U U<|Zv (yda 1 (m:=2) U U U U)<|Ze (eb1 elAns (by decide) U) fun A109=>Zw ?_
      rotate_left
      refine Zsk<|Zxn<|Znx<|Zrg<|Zm U<|Zv (yadd U U (i64w U (by omega)))<|Zy U<|Znl ?_
      rotate_left
      all_goals rw [← hcs]
      ·rw [if_pos (show askK al[s.1.i].com.acc.kind=true from h105)] at hac
       refine Ze (eap' 4 0 elAns U U U own.rd U U U (fun _ _=>U) (by simp;omega) (ml_le (by simp;omega)))<|fun O2' c2'=>Zw<|Zy U<|Znl<|Zxn<|Znx<|Zrg<|Zm U<|Zv (yadd U U (i64w U (by omega)))<|Zy U<|Znl ?_
       rw [← hac]
       refine Zlr ⟨⟨s.1.i+1,O',c',O2',c2'⟩,hi⟩ (by show al.length-(s.1.i+1)<al.length-s.1.i;omega) ⟨U,U,U,U,U,U,U,trivial⟩ [3,3,3] 3 U U
      ·rw [if_neg (bf (show askK al[s.1.i].com.acc.kind=false from h105)),List.append_nil] at hac
       rw [← hac]
       refine Zlr ⟨⟨s.1.i+1,O',c',s.1.O2,s.1.c2⟩,hi⟩ (by show al.length-(s.1.i+1)<al.length-s.1.i;omega) ⟨U,U,U,U,U,U,U,trivial⟩ [2,2,2] 2 U U
     ·have hsi:s.1.i=al.length:=by have:=s.2;omega
      rw [hsi,List.take_length]
      obtain ⟨c,hcC,htol,hau⟩:=run_alone (m0:=x.m) (l:=ls) (new_h0 x hn4) (newM_C (bs:=x.bs) (sets:=x.sets) (ways:=x.ways) hn)
      rw [hall] at htol hau
      have htol:tolF x.l[n.1].2.2 (x.bs.length:Int) (comsN n.1 al).length (hrt0 (n.1:Int)) (anssOf (comsN n.1 al)) []=(c.h,comsN n.1 al):=htol
      rw [hmm] at hcC
      have hw0:=hx.cds.w _ (List.getElem_mem hn)
      have hz0:=hx.cds.z _ (List.getElem_mem hn)
      have hu0:=hx.cds.u _ (List.getElem_mem hn)
      have hq0:=hxq _ (List.getElem_mem hn)
      have hRc:=hx.cds.r
      have hb0:=a_2.b
      have hcl:x.l[n.1].2.2.length≤1024:=code_le a_1 hn
      have hnl:x.l.length≤4:=by have:=len_C x;omega
      have hl1:(comsN n.1 al).length≤1000:=by have:=@coms_len n.1 al;omega
      have hl2:(anssOf (comsN n.1 al)).length≤1000:=Nat.le_trans anss_len hl1
      have h13:=c13p a (.hp (own ansE s.1.O2 s.1.c2 (anssOf (comsN n.1 al)))) x.l[n.1].1 s.1.O2 x.l[n.1].2.1 s.1.c2 (comsN n.1 al).length x.l[n.1].2.2 (x.bs.length:Int) (n.1:Int) (anssOf (comsN n.1 al)) (fun h=>hq0 fun h2=>h (hz0 h2)) own.rd hcl (by omega) hl1 hl2 (by omega) _ _ htol
      refine Zjm (ι:=Nat × Option Addr × Nat) (fun r=>[(9,.int .i64 (n.1:Int)),(7,.slice A' al.length cap'),(5,pt b),(2,pt b2),(10,.slice s.1.O (comsN n.1 al).length s.1.c),(11,.slice s.1.O2 (anssOf (comsN n.1 al)).length s.1.c2),(15,pt r.1),(16,.slice r.2.1 (comsN n.1 al).length r.2.2),(17,.int .i64 0)]) (fun r=>[.blk r.1 59 (hrtE.cells c.h),.hp (own comE r.2.1 r.2.2 (comsN n.1 al)),.hp p,.hp (own ansE s.1.O2 s.1.c2 (anssOf (comsN n.1 al)))]) (.hp (own comE s.1.O s.1.c (comsN n.1 al)) :: .hp (own didE A' cap' al) :: .hp (machC (0+ls.length) b mm) :: .hp (imgC bi x.bs) :: .blk b2 25 x.cells::X) ?_ fun r=>?_
      rotate_left
      refine Zsq ?_
      rotate_left
      ·refine Zhd [4,1] U U<|Zht 0 U (yf 0 U)<|Zht 1 U (yd 4 U U U)<|Zht 2 U (ym U)<|Zht 5 U (yf 1 U)<|Zht 6 U (yd 4 U U U)<|Zht 7 U (sl_of ⟨_,Tryz.underlying23⟩ U)<|Zht 8 U (ym U)<|Zht 9 U (ym U)<|Zht 10 U (sl_of ⟨_,Tryz.underlying55⟩ U) ?_
       refine Zht 11 U (ym U)<|ZH2 3 17 (Zov U (yea 0 hRc U U U (by first | assumption | omega) U Tryz.underlying22 U) ?_) (Zoe U (eal z59) fun b15=>Zwh 3 U ?_)
       refine ZH2 4 17 (Zov U (yec (m:=0) 0 hRc U (gE (by first | assumption | omega)) U U U) ?_) (Zoe U (eal z59) fun b15=>Zwh 3 U ?_)
       rotate_left
       refine ZH1 4<|Zov U (yec (m:=0) 1 hRc U (gE (by first | assumption | omega)) U U U) ?_
       rotate_left
       refine ZH1 3<|Zov U (yea 1 hRc U U U (by first | assumption | omega) U Tryz.underlying22 U)<|ZH1 4<|Zov U (yec (m:=0) 1 hRc U (gE (by first | assumption | omega)) U U U) ?_
       rotate_left
       ·refine ZH2 12 17 (Zok h13 [0,0] U U U<|fun O3 c3=>?_) (Zoe U (eal z59) fun b15=>Zwh 3 U ?_)
        refine Zqh 3 U<|Zht 13 U (ym U)<|Zht 14 U (yx U U)<|Zht 15 U (yx U U)<|Zht 16 U (yx U U)<|ZH1 17<|Zoe U (eal z59) fun b15=>Zwh 4 U<|ZH1 18<|Zoe U (esw 0 (m:=35) U U U U U (Enc.len ..) (Enc.allL ..))<|Zwh0 4 U<|Zht 19 U (ya U)<|Zht 20 U (ya U)<|ZHn ?_
        rotate_left
        rotate_left
        ·refine Zjr (b15,O3,c3) ⟨U,U,U,U,U,U,U,U,U,trivial⟩ [0,0,0,0] 0 U U
        ·refine ZH1 12<|Zok h13 [1,1] U U U<|fun O3 c3=>Zqh 4 U<|Zht 13 U (ym U)<|Zht 14 U (yx U U)<|Zht 15 U (yx U U)<|Zht 16 U (yx U U)<|ZH1 18<|Zoe U (esw 3 (m:=35) U U U U U (Enc.len ..) (Enc.allL ..))<|Zwh0 4 U<|Zht 19 U (ya U)<|Zht 20 U (ya U)<|ZHn ?_
         refine Zjr (b15,O3,c3) ⟨U,U,U,U,U,U,U,U,U,trivial⟩ [3,0,0,0] 0 U U
       ·refine ZH1 12<|Zok h13 [1,1] U U U<|fun O3 c3=>Zqh 4 U<|Zht 13 U (ym U)<|Zht 14 U (yx U U)<|Zht 15 U (yx U U)<|Zht 16 U (yx U U)<|ZH1 18<|Zoe U (esw 3 (m:=35) U U U U U (Enc.len ..) (Enc.allL ..))<|Zwh0 4 U<|Zht 19 U (ya U)<|Zht 20 U (ya U)<|ZHn ?_
        refine Zjr (b15,O3,c3) ⟨U,U,U,U,U,U,U,U,U,trivial⟩ [3,0,0,0] 0 U U
       ·refine ZH1 12<|Zok h13 [1,1] U U U<|fun O3 c3=>Zqh 4 U<|Zht 13 U (ym U)<|Zht 14 U (yx U U)<|Zht 15 U (yx U U)<|Zht 16 U (yx U U)<|ZH1 18<|Zoe U (esw 3 (m:=35) U U U U U (Enc.len ..) (Enc.allL ..))<|Zwh0 4 U<|Zht 19 U (ya U)<|Zht 20 U (ya U)<|ZHn ?_
        refine Zjr (b15,O3,c3) ⟨U,U,U,U,U,U,U,U,U,trivial⟩ [3,0,0,0] 0 U U
      ·have h14:=c14 (.hp p) (.hp (own ansE s.1.O2 s.1.c2 (anssOf (comsN n.1 al)))) x.l[n.1].1 s.1.O2 x.l[n.1].2.1 s.1.c2 (comsN n.1 al).length x.l[n.1].2.2 (x.bs.length:Int) (n.1:Int) (anssOf (comsN n.1 al)) (fun h=>hw0 fun h2=>h (hz0 h2)) own.rd (by omega) hu0 hl1 hl2 hau (by omega)
       rw [htol] at h14
       refine Zjm (ι:=Nat × Option Addr × Nat) (fun q=>[(9,.int .i64 (n.1:Int)),(7,.slice A' al.length cap'),(5,pt b),(2,pt b2),(10,.slice s.1.O (comsN n.1 al).length s.1.c),(15,pt r.1),(16,.slice r.2.1 (comsN n.1 al).length r.2.2),(17,.int .i64 0),(18,pt q.1),(19,.slice q.2.1 (comsN n.1 al).length q.2.2)]) (fun q=>[.blk q.1 59 (hrtE.cells c.h),.hp (own comE q.2.1 q.2.2 (comsN n.1 al)),.hp p,.hp (own ansE s.1.O2 s.1.c2 (anssOf (comsN n.1 al)))]) (.blk r.1 59 (hrtE.cells c.h) :: .hp (own comE r.2.1 r.2.2 (comsN n.1 al)) :: .hp (own comE s.1.O s.1.c (comsN n.1 al)) :: .hp (own didE A' cap' al) :: .hp (machC (0+ls.length) b mm) :: .hp (imgC bi x.bs) :: .blk b2 25 x.cells::X) ?_ fun q=>?_
       rotate_left
       refine Zsq<|Zsq ?_
       rotate_left
       ·refine Zhd [2,2] U U<|Zht 0 U (yf 0 U)<|Zht 1 U (yd 6 U U U)<|Zht 2 U (ym U)<|Zht 5 U (yf 1 U)<|Zht 6 U (yd 6 U U U)<|Zht 7 U (sl_of ⟨_,Tryz.underlying23⟩ U)<|Zht 8 U (ym U)<|Zht 9 U (ym U)<|Zht 10 U (sl_of ⟨_,Tryz.underlying55⟩ U) ?_
        refine Zht 11 U (ym U)<|ZH2 3 16 (Zov U (yea 0 hRc U U U (by first | assumption | omega) U Tryz.underlying22 U) ?_) (Zoe U (eal z59) fun b18=>Zwh 3 U ?_)
        refine ZH2 4 16 (Zov U (yec (m:=0) 0 hRc U (gE (by first | assumption | omega)) U U U) ?_) (Zoe U (eal z59) fun b18=>Zwh 3 U ?_)
        rotate_left
        refine ZH1 4<|Zov U (yec (m:=0) 1 hRc U (gE (by first | assumption | omega)) U U U) ?_
        rotate_left
        refine ZH1 3<|Zov U (yea 1 hRc U U U (by first | assumption | omega) U Tryz.underlying22 U)<|ZH1 4<|Zov U (yec (m:=0) 1 hRc U (gE (by first | assumption | omega)) U U U) ?_
        rotate_left
        ·refine ZH2 12 16 (Zok h14 [0,0] U U U<|fun O3 c3=>?_) (Zoe U (eal z59) fun b18=>Zwh 3 U ?_)
         refine Zqh 3 U<|Zht 13 U (ym U)<|Zht 14 U (yx U U)<|Zht 15 U (yx U U)<|ZH1 16<|Zoe U (eal z59) fun b18=>Zwh 4 U<|ZH1 17<|Zoe U (esw 0 (m:=35) U U U U U (Enc.len ..) (Enc.allL ..))<|Zwh0 4 U<|Zht 18 U (ya U)<|ZHn ?_
         rotate_left
         rotate_left
         ·refine Zjr (b18,O3,c3) ⟨U,U,U,U,U,U,U,U,U,U,trivial⟩ [0,0,0,0] 0 U U
         ·refine ZH1 12<|Zok h14 [1,1] U U U<|fun O3 c3=>Zqh 4 U<|Zht 13 U (ym U)<|Zht 14 U (yx U U)<|Zht 15 U (yx U U)<|ZH1 17<|Zoe U (esw 3 (m:=35) U U U U U (Enc.len ..) (Enc.allL ..))<|Zwh0 4 U<|Zht 18 U (ya U)<|ZHn ?_
          refine Zjr (b18,O3,c3) ⟨U,U,U,U,U,U,U,U,U,U,trivial⟩ [3,0,0,0] 0 U U
        ·refine ZH1 12<|Zok h14 [1,1] U U U<|fun O3 c3=>Zqh 4 U<|Zht 13 U (ym U)<|Zht 14 U (yx U U)<|Zht 15 U (yx U U)<|ZH1 17<|Zoe U (esw 3 (m:=35) U U U U U (Enc.len ..) (Enc.allL ..))<|Zwh0 4 U<|Zht 18 U (ya U)<|ZHn ?_
         refine Zjr (b18,O3,c3) ⟨U,U,U,U,U,U,U,U,U,U,trivial⟩ [3,0,0,0] 0 U U
        ·refine ZH1 12<|Zok h14 [1,1] U U U<|fun O3 c3=>Zqh 4 U<|Zht 13 U (ym U)<|Zht 14 U (yx U U)<|Zht 15 U (yx U U)<|ZH1 17<|Zoe U (esw 3 (m:=35) U U U U U (Enc.len ..) (Enc.allL ..))<|Zwh0 4 U<|Zht 18 U (ya U)<|ZHn ?_
         refine Zjr (b18,O3,c3) ⟨U,U,U,U,U,U,U,U,U,U,trivial⟩ [3,0,0,0] 0 U U
       ·have hmj:(mm.C.map (·.h))[n.1]? = some c.h:=by rw [List.getElem?_map,hcC];rfl
        have hmn:n.1<(mm.C.map (·.h)).length:=(List.getElem?_eq_some_iff.1 hmj).1
        have hcc:(!decide (c.h=c.h))=false:=by rw [dT rfl];rfl
        refine Zhd [8] U U<|Zht 0 U (ym U)<|Zht 1 U (yne U U)<|Zht 2 U (ym U)<|Zhg 3 U U U (ydw 4 (m:=35) U U (Enc.len ..))<|Zhg 4 U U U (ym U)<|Zhg 6 U U U (ym U)<|ZH1 5<|Zok (c15 ..) [0] U U U<|fun A=>fun cap=>?_
        refine Zqh 2 U<|ZH1 7<|Zov U (yea 0 own.rd U U U (by first | assumption | omega) U Tryz.underlying65 U)<|ZH1 8<|Zov U (yel 0 own.rd U (by assumption) U U U)<|Zhg 9 U U U (yneE hrtER _ _ U U)<|Zht 10 U (ypf U U)<|Zht 11 U (ym U)<|Zhg 12 U U (lkn U hcc) (ydw 4 (m:=35) U U (Enc.len ..))<|Zhg 13 U U (lkn U hcc) (ydw 0 (m:=35) U U (Enc.len ..))<|Zhg 14 U U (lkn U hcc) (yneE hrtER _ _ U U)<|Zht 15 U (ypf' U hcc U) ?_
        refine Zht 16 U (ym U)<|Zhg 17 U U (lkn U hcc) (ym U)<|Zhg 18 U U (lkn U hcc) (sl_of ⟨_,Tryz.underlying55⟩ U)<|Zhg 19 U U (lkn U hcc) (ym U)<|Zhg 20 U U (lkn U hcc) (sl_of ⟨_,Tryz.underlying55⟩ U)<|Zhg 21 U U (lkn U hcc) (yne U U)<|Zht 22 U (ypf' U hcc U)<|Zht 23 U (ym U)<|Zhg 24 U U (lkn U (dF (by omega))) (ym U)<|Zhg 25 U U (lkn U (dF (by omega))) (sl_of ⟨_,Tryz.underlying55⟩ U) ?_
        refine Zhg 26 U U (lkn U (dF (by omega))) (ym U)<|Zhg 27 U U (lkn U (dF (by omega))) (sl_of ⟨_,Tryz.underlying55⟩ U)<|Zhg 28 U U (lkn U (dF (by omega))) (yne U U)<|Zht 29 U (ypf' U (dF (by omega)) U)<|ZHn<|Znx<|Zcf' U (dF (by omega))<|Zks ?_
        refine Zy U<|Znb ?_
        refine Zlq (ι:={ i:Nat // i≤(comsN n.1 al).length }) (fun i=>[(20,.int .i64 (i.1:Int)),(10,.slice s.1.O (comsN n.1 al).length s.1.c),(16,.slice r.2.1 (comsN n.1 al).length r.2.2),(19,.slice q.2.1 (comsN n.1 al).length q.2.2),(9,.int .i64 (n.1:Int)),(7,.slice A' al.length cap'),(5,pt b),(2,pt b2)]) (fun _=>[.hp (own comE s.1.O s.1.c (comsN n.1 al)),.hp (own comE r.2.1 r.2.2 (comsN n.1 al)),.hp (own comE q.2.1 q.2.2 (comsN n.1 al))]) (fun i=>(comsN n.1 al).length-i.1) ⟨0,Nat.zero_le _⟩ ⟨U,U,U,U,U,U,U,U,trivial⟩ [8,7,3] U fun i=>Zsq<|Zsr<|Zb 2 U<|Zv (sl_of ⟨_,Tryz.underlying55⟩ U)<|Zv (ylt U U)<|Zn<|Zif U (fun h177=>?_) (fun h177=>?_)
        refine Zkn<|Zsq<|Zbl<|Zsq ?_
        rotate_left
        refine Zex<|Zxt<|Zxt<|Zxx<|Zxn<|Znx<|Zrg<|Zm U<|Zv (yadd U U (i64w U (by omega)))<|Zy U ?_
        refine Znl ?_
        rotate_left
        ·have hi:i.1<(comsN n.1 al).length:=by omega
         have hcx:(!decide ((comsN n.1 al)[i.1]=(comsN n.1 al)[i.1]))=false:=by rw [dT rfl];rfl
         refine Zhd [] U U<|Zht 0 U (ym U)<|Zht 1 U (ym U)<|Zht 2 U (yea 0 own.rd U U U (by first | assumption | omega) U Tryz.underlying55 U)<|Zht 3 U (yel 0 own.rd U (gE (by first | assumption | omega)) U U U)<|Zht 4 U (ym U)<|Zht 5 U (ym U)<|Zht 6 U (yea 1 own.rd U U U (by first | assumption | omega) U Tryz.underlying55 U)<|Zht 7 U (yel 1 own.rd U (gE (by first | assumption | omega)) U U U)<|Zht 8 U (yneE comER _ _ U U) ?_
         refine Zht 9 U (ym U)<|Zhg 10 U U (lkn U hcx) (ym U)<|Zhg 11 U U (lkn U hcx) (ym U)<|Zhg 12 U U (lkn U hcx) (yea 0 own.rd U U U (by first | assumption | omega) U Tryz.underlying55 U)<|Zhg 13 U U (lkn U hcx) (yel 0 own.rd U (gE (by first | assumption | omega)) U U U)<|Zhg 14 U U (lkn U hcx) (ym U)<|Zhg 15 U U (lkn U hcx) (ym U)<|Zhg 16 U U (lkn U hcx) (yea 2 own.rd U U U (by first | assumption | omega) U Tryz.underlying55 U)<|Zhg 17 U U (lkn U hcx) (yel 2 own.rd U (gE (by first | assumption | omega)) U U U)<|Zhg 18 U U (lkn U hcx) (yneE comER _ _ U U) ?_
         refine Zht 19 U (ypf' U hcx U)<|ZHn<|Znx<|Zcf' U hcx<|Zsk<|Zxn<|Znx<|Zrg<|Zm U<|Zv (yadd U U (i64w U (by omega))) ?_
         refine Zy U<|Znl ?_
         refine Zlr ⟨i.1+1,hi⟩ (by show (comsN n.1 al).length-(i.1+1)<(comsN n.1 al).length-i.1;omega) ⟨U,U,U,U,U,U,U,U,trivial⟩ [0,0,0] 0 U U
        ·refine Zlr ⟨n.1+1,hn⟩ (by show x.l.length-(n.1+1)<x.l.length-n.1;omega) ⟨U,U,U,U,trivial⟩ [9,4,5] 7 U U
    ·refine Zk (c9p a) [2] U U<|Zq<|Zy U<|Znr<|Zre (.t U .n) hS [0] 4 U U U U
   ·refine Zk (c9p a) [1] U U<|Zq<|Zb 2 U<|Znr<|Zr1<|Zre (.t U .n) hS [0] 3 U U U U
 ·refine Zk (c8 (.hp p) x hx C capc ls.length) [0] U U<|⟨?_,?_⟩
  refine Zq<|Zb 4 U<|Zn<|Zct U<|Zsr ?_
  rotate_left
  refine fun a_2=>Zq <| Zv (ym rfl) <| Zg rfl rfl <| Zv (ym rfl) <| Zg rfl rfl <| Zv (ypeq rfl rfl rfl) <| Zv (ypf rfl rfl) <| Znl <| Znx ?_
  refine Zct U<|Zsr ?_
  rotate_left
  ·refine Zk (c9p a) [0] U U<|Zq<|Zy U<|Znr<|Zr1<|Zre (.t U .n) hS [0] 1 U U U U
  ·refine Zk (c9p a) [0] U U<|Zq<|Zy U<|Znr<|Zr1<|Zre (.t U .n) hS [0] 1 U U U U
end Go.Proofs.YtpfijldkkfiooaaGreatDoor
