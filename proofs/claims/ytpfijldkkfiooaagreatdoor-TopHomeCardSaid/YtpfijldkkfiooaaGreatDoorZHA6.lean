/-
  Part 6 of what the claim stands on: walks through the code, plain laws.
-/
import Derived.Test.YtpfijldkkfiooaaGreatDoorZHA5
set_option linter.unusedVariables false
set_option linter.unusedSimpArgs false
namespace Go.Proofs.YtpfijldkkfiooaaGreatDoor
open Go
set_option maxRecDepth 4000
def backB (h:HD) (x:Msg):Bool:=decide (x.kind=11) && ownB h x.line x.src
def lnOf (x:Msg):Ln:=⟨x.line,0,x.bs,x.hn⟩
def over1 (h:HD) (l:List Msg):List Ln:=(l.filter (backB h)).map lnOf
def givL (h:HD) (n:Nat) (g:Option Ln):List Ln:=match g with | some x=>if ownB h x.num n=true then [x] else [] | none=>[]
def cd0:CD:=⟨0,0,0,[],none,none⟩
def over2 (h:HD) (D:List CD) (i:Nat):List Ln:=(List.range i).flatMap fun j=>givL h j (D.getD j cd0).giv
def dirL (l:List Ln):List Ln:=l.filter fun x=>decide (x.state≠1)
def over3 (D:List CD) (i:Nat):List Ln:=(D.take i).flatMap fun d=>dirL (allL d.n d.L)
def overL (m:MD):List Ln:=over1 m.h m.q++over2 m.h m.D m.D.length++over3 m.D m.D.length
theorem filt_snc {α:Type} {p:α→Bool} {l:List α} {i:Nat} (h:i<l.length):(l.take (i+1)).filter p=(l.take i).filter p++(if p l[i]=true then [l[i]] else []):=by
 rw [← take_snc (gE h),List.filter_append]
 congr 1
 cases hp:p l[i] with
 | true=>simp [hp]
 | false=>simp [hp]
theorem filt_pre {α:Type} {p:α→Bool} {l:List α} {i:Nat}:(l.take i).filter p <+: l.filter p:=(List.take_prefix i l).filter p
theorem over1_snc {h:HD} {l:List Msg} {i:Nat} (hi:i<l.length):over1 h (l.take (i+1))=over1 h (l.take i)++(if backB h l[i]=true then [lnOf l[i]] else []):=by
 unfold over1
 rw [filt_snc hi,List.map_append]
 congr 1
 split <;> rfl
theorem over1_pre {m:MD} {i:Nat}:over1 m.h (m.q.take i) <+: overL m:=by
 unfold overL
 rw [List.append_assoc]
 exact (((List.take_prefix i m.q).filter _).map _).trans (List.prefix_append _ _)
theorem over2_snc {h:HD} {D:List CD} {i:Nat}:over2 h D (i+1)=over2 h D i++givL h i (D.getD i cd0).giv:=by
 unfold over2
 rw [List.range_succ,List.flatMap_append]
 simp
theorem range_pre {i n:Nat} (h:i≤n):List.range i <+: List.range n:=by
 obtain ⟨k,rfl⟩:=Nat.exists_eq_add_of_le h
 rw [List.range_add]
 exact List.prefix_append _ _
theorem flat_pre {α β:Type} {f:α→List β} {a b:List α} (h:a <+: b):a.flatMap f <+: b.flatMap f:=by
 obtain ⟨c,rfl⟩:=h
 rw [List.flatMap_append]
 exact List.prefix_append _ _
theorem over2_pre {m:MD} {i:Nat} (h:i≤m.D.length):over1 m.h m.q++over2 m.h m.D i <+: overL m:=by
 unfold overL
 exact ((List.prefix_append_right_inj _).2 (flat_pre (range_pre h))).trans (List.prefix_append _ _)
theorem over3_snc {D:List CD} {i:Nat} (hi:i<D.length):over3 D (i+1)=over3 D i++dirL (allL D[i].n D[i].L):=by
 unfold over3
 rw [← take_snc (gE hi),List.flatMap_append]
 simp
theorem over3_pre {m:MD} {i k:Nat} (hi:i<m.D.length):over1 m.h m.q++over2 m.h m.D m.D.length++(over3 m.D i++dirL ((allL m.D[i].n m.D[i].L).take k)) <+: overL m:=by
 unfold overL
 refine (List.prefix_append_right_inj _).2 (List.IsPrefix.trans ((List.prefix_append_right_inj _).2 filt_pre) ?_)
 show over3 m.D i++dirL (allL m.D[i].n m.D[i].L) <+: _
 rw [← over3_snc hi]
 exact flat_pre (by rw [List.take_length];exact List.take_prefix _ _)
theorem c55 (bp:Nat):Sp Tryz.prog 55 [pt bp] [] fun K=>∀ b1,K (.returned (.func (.func 100) #[] #[pt b1])) [.blk b1 101 [pt bp]]:=by
 refine Zen Tryz.func55 U U U fun e X Φ hS=>Zsr<|Ze (ebx U) fun b1=>Zw<|Zy U<|Zns<|Zv (yfn U U)<|Zy U<|Znl ?_
 refine Zxr<|Zre (.t U .n) (hS _) [0] 0 U U U U
theorem q100 (k b1 bp:Nat) (m:MD) (hk:k≤1000):Sq Tryz.prog 100 [pt b1] [.blk b1 101 [pt bp],.hp (partC k bp m)] (fun _=>[.blk b1 101 [pt bp],.hp (partC k bp m)]) (fun x=>[.agg (lnE.arr x)]) (overL m):=by
 refine ⟨fun y J Jx hYd=>?_⟩
 refine Zen Tryz.func100 U U U fun e X Φ hS=>Zoc 2 part_op U<|fun ok A cap B capb bn bh cb kb hl=>Zsr<|Zv (yfn U U)<|Zy U<|Znqs<|Za 2 [8] U U ?_
 refine Za 2 [2,0] U U ?_
 have hCl:m.C.length≤4:=ok.n1
 have hDl:=ok.d
 have hm0:m.most≠0:=by have:=ok.m0;omega
 have hql:m.q.length≤1048576:=by have:=ok.q;have:=ok.m1;omega
 refine Zol 5 net_op U<|fun An capn=>Zol 1 own_len U<|fun hA hcp hcm=>Zk (c80 ..) [1,0] U U<|fun A'=>fun cap'=>Zq<|Zv (sl_of ⟨_,Tryz.underlying112⟩ U)<|Zm U<|Znb ?_
 refine Zfc [1,1] (net_fold (b:=bn) (q:=m.q) U) U ?_
 refine Zlq (ι:={ i:Nat // i≤m.q.length }) (fun i=>[(21,.int .i64 (i.1:Int)),(20,.int .i64 (m.q.length:Int)),(19,.slice A' m.q.length cap'),(0,.func (.yield y) #[] #[]),(1,pt b1),(3,.func (.func 101) #[] #[pt b1])]) (fun i=>[.hp (own msgE A' cap' m.q),.blk bp 108 [.slice A cb.length cap,.slice B kb.length capb,pt bn,pt bh],.blk b1 101 [pt bp],.hp (homC k bh m.h),.hp (J (over1 m.h (m.q.take i.1)))]) (fun i=>m.q.length-i.1) ⟨0,by omega⟩ ⟨U,U,U,U,U,U,trivial⟩ [1,1,7,5,5] U fun i=>Zsr<|Zv (ylt U U)<|Znq<|Zif U (fun h22=>?_) (fun h22=>?_)
 refine Zkn<|Zsq<|Zbl<|Zsr<|Zv (yea 0 own.rd U U U (by first | assumption | omega) U Tryz.underlying112 U)<|Zv (yel 0 own.rd U (gE (by first | assumption | omega)) U U U)<|Ze (eal z117) fun b5=>Zw<|Ze (esw 0 (m:=20) U U U U U (Enc.len ..) (Enc.allL ..))<|Zw0<|Znl ?_
 refine Zxs<|Za 4 [0,0] U U<|Zgs U U (fun h28=>?_) (fun h28=>?_)
 refine Zg' U U (dT h28)<|Zm U<|Zg' U U (dT h28)<|Zv (yf 3 U)<|Zg' U U (dT h28)<|Zv (yd 0 U U U)<|Zg' U U (dT h28)<|Zv (yf 1 U)<|Zg' U U (dT h28)<|Zv (yd 0 U U U) ?_
 refine Zg' U U (dT h28) ?_
 rotate_left
 refine Zu' U U (dF h28) U<|Zu' U U (dF h28) U<|Zu' U U (dF h28) U<|Zu' U U (dF h28) U<|Zu' U U (dF h28) U<|Zu' U U (dF h28) U<|Zv (ypf' U (dF h28) U)<|Zb 3 U ?_
 refine Zb 7 U<|Zn<|Zcf U ?_
 refine Zsk<|Zxn<|Znx<|Zrg<|Zv (yadd U U (i64w U (by omega)))<|Zm U<|Znl ?_
 rotate_left
 refine Zex<|Zxt<|Zxt<|Zxx<|Zxq<|Zsr<|Za 3 [2,1] U U ?_
 refine Zv (yd 1 U U U)<|Zv (sl_of ⟨_,Tryz.underlying106⟩ U)<|Zm U<|Znb ?_
 rotate_left
 ·have hlt:i.1<m.q.length:=by omega
  have hmn:=m.q[i.1].hn
  have hs1:=over1_snc (h:=m.h) hlt
  refine Zkv (t:=29) (b1:=[]) (b2:=[pt b1]) (args:=[.int .u32 m.q[i.1].line,.int .i64 m.q[i.1].src]) (c101 k b1 bp m.q[i.1].line m.q[i.1].src m.h bh (.slice A cb.length cap) (.slice B kb.length capb) (pt bn) hmn hk) [3,2,2] U U U U<|Zq ?_
  generalize ho:ownB m.h m.q[i.1].line m.q[i.1].src=ob
  refine Zv (ypt' U (dT h28) U)<|Zm U<|Zgb U U (fun h36=>?_) (fun h36=>?_)
  refine Zg' U U h36<|Zm U<|Zg' U U h36<|Zv (yf 3 U)<|Zg' U U h36<|Zv (yd 3 U U U)<|Zg' U U h36<|Zv (yf 4 U)<|Zg' U U h36<|Zv (yda 3 (m:=16) U U (msg_bs' _) (Enc.len ..)) ?_
  refine Zg' U U h36<|Zv (ybln2 (by assumption) U)<|Zg' U U h36 ?_
  rotate_left
  refine Zu' U U h36 U<|Zu' U U h36 U<|Zu' U U h36 U<|Zu' U U h36 U<|Zu' U U h36 U<|Zu' U U h36 U<|Zu' U U h36 U<|Zu' U U h36 U<|Zv (ypf' U h36 U)<|Znl ?_
  refine Znx<|Zcf U<|Zsk<|Zxn<|Znx<|Zrg<|Zv (yadd U U (i64w U (by omega)))<|Zm U<|Znl ?_
  rotate_left
  ·have hb:backB m.h m.q[i.1]=true:=by simp [backB,h28,ho,h36]
   rw [hb] at hs1
   simp only [if_true] at hs1
   have hpr:over1 m.h (m.q.take i.1)++[lnOf m.q[i.1]] <+: overL m:=by rw [← hs1];exact over1_pre
   refine Zyd (hYd (over1 m.h (m.q.take i.1)) (lnOf m.q[i.1]) hpr) 5 U U U ?_ ?_
   refine Zg' U U h36<|Zv (ynot U)<|Zv (ypt' U h36 U)<|Zn<|Zcf U<|Zsk<|Zxn<|Znx<|Zrg ?_
   refine Zv (yadd U U (i64w U (by omega)))<|Zm U<|Znl ?_
   rotate_left
   refine Zg' U U h36<|Zv (ynot U)<|Zv (ypt' U h36 U)<|Zn<|Zct U<|Zrt<|Zr2<|Zr1<|Zr1 ?_
   refine Zr2<|Zr1 ?_
   rotate_left
   ·rw [← hs1]
    refine Zlr ⟨i.1+1,hlt⟩ (by show m.q.length-(i.1+1)<m.q.length-i.1;omega) ⟨U,U,U,U,U,U,trivial⟩ [5,2,1,1,0] 1 U U
   ·refine Zfx [2,6,6,6,6,5,2] (part_fold (m:=m) ok hl) U ?_
    refine Zre .n (hS.2 _ hpr) [1,1,0] 2 U U U U
  ·have hb:backB m.h m.q[i.1]=false:=by simp [backB,h28,ho,h36]
   rw [hb] at hs1
   simp only [Bool.false_eq_true,if_false,List.append_nil] at hs1
   rw [← hs1]
   refine Zlr ⟨i.1+1,hlt⟩ (by show m.q.length-(i.1+1)<m.q.length-i.1;omega) ⟨U,U,U,U,U,U,trivial⟩ [4,1,0,0,1] 1 U U
 ·have hlt:i.1<m.q.length:=by omega
  have hs1:=over1_snc (h:=m.h) hlt
  have hb:backB m.h m.q[i.1]=false:=by simp [backB,h28]
  rw [hb] at hs1
  simp only [Bool.false_eq_true,if_false,List.append_nil] at hs1
  rw [← hs1]
  refine Zlr ⟨i.1+1,hlt⟩ (by show m.q.length-(i.1+1)<m.q.length-i.1;omega) ⟨U,U,U,U,U,U,trivial⟩ [1,1,1,1,1] 1 U U
 ·have hi:i.1=m.q.length:=by have:=i.2;omega
  rw [show m.q.take i.1=m.q from List.take_of_length_le (by omega)]
  have hl2:kb.length=m.D.length:=by rw [hDl];exact hl.2
  refine Zlq (ι:={ j:Nat // j≤kb.length }) (fun j=>[(52,.int .i64 (j.1:Int)),(51,.int .i64 (kb.length:Int)),(50,.slice B kb.length capb),(0,.func (.yield y) #[] #[]),(1,pt b1),(3,.func (.func 101) #[] #[pt b1])]) (fun j=>[.hp (cacsC (kb.zip m.D)),.blk bp 108 [.slice A cb.length cap,.slice B kb.length capb,pt bn,pt bh],.blk b1 101 [pt bp],.hp (homC k bh m.h),.hp (J (over1 m.h m.q++over2 m.h m.D j.1))]) (fun j=>kb.length-j.1) ⟨0,by omega⟩ ⟨U,U,U,U,U,U,trivial⟩ [9,1,1,1,1] (by rw [show over2 m.h m.D 0=[] from rfl,List.append_nil];rfl) fun j=>Zsr<|Zv (ylt U U)<|Znq<|Zif U (fun h53=>?_) (fun h53=>?_)
  refine Zkn<|Zsq<|Zbl<|Zsr<|Zm U<|Zv (yea 8 own.rd U U U (by first | assumption | omega) U Tryz.underlying106 U)<|Zv (yec (m:=0) 8 own.rd U (gE (by first | assumption | omega)) U U U)<|Zb 2 U ?_
  refine Zns<|Zm U ?_
  rotate_left
  refine Zex<|Zxt<|Zxt<|Zxx<|Zxs<|Za 4 [2,1,1] U U ?_
  refine Zv (sl_of ⟨_,Tryz.underlying106⟩ U)<|Zm U<|Znb ?_
  rotate_left
  ·have hjt:j.1<kb.length:=by omega
   have hki:=gE hjt
   have hDi:=gE (l:=m.D) (k:=j.1) (by omega)
   have hz2:=zip_at hki hDi
   have hzl2:=(List.getElem?_eq_some_iff.1 hz2).1
   have hs2:=over2_snc (h:=m.h) (D:=m.D) (i:=j.1)
   have hgd:m.D.getD j.1 cd0=m.D[j.1]:=by rw [List.getD_eq_getElem?_getD,hDi];rfl
   rw [hgd] at hs2
   refine Zol 0 (cacs_op hz2) U ?_
   refine Zk (c103 kb[j.1] m.D[j.1]) [0] U U<|Zq<|Zb 3 U<|Ze (eal z145) fun b8=>Zw<|Ze (esw 0 (m:=18) U U U U U (Enc.len ..) (Enc.allL ..))<|Zw0<|Zy U<|Zn ?_
   refine Zsr<|Zb 2 U<|Zgb U U (fun h63=>?_) (fun h63=>?_)
   refine Zg' U U h63<|Zm U<|Zg' U U h63<|Zv (yf 0 U)<|Zg' U U h63<|Zv (yd 0 U U U)<|Zg' U U h63<|Zm U<|Zg' U U h63 ?_
   rotate_left
   refine Zu' U U h63 U<|Zu' U U h63 U<|Zu' U U h63 U<|Zu' U U h63 U<|Zu' U U h63 U<|Zv (ypf' U h63 U)<|Zb 4 U ?_
   refine Zb 2 U<|Zn<|Zcf U<|Zsk<|Zxn<|Znx<|Zrg<|Zv (yadd U U (i64w U (by omega))) ?_
   refine Zm U<|Znl ?_
   rotate_left
   ·obtain ⟨x,hx⟩:∃ x,m.D[j.1].giv=some x:=Option.isSome_iff_exists.1 h63
    have hxd:m.D[j.1].giv.getD ln0=x:=by rw [hx];rfl
    rw [hxd]
    rw [hx] at hs2
    have hxn:=x.hn
    refine Zkv (t:=64) (b1:=[]) (b2:=[pt b1]) (args:=[.int .u32 x.num,.int .i64 (j.1:Int)]) (c101 k b1 bp x.num (j.1:Int) m.h bh (.slice A cb.length cap) (.slice B kb.length capb) (pt bn) hxn hk) [4,3,3] U U U U<|Zq ?_
    generalize ho:ownB m.h x.num (j.1:Int)=ob
    refine Zv (ypt' U h63 U)<|Zm U<|Zgb U U (fun h70=>?_) (fun h70=>?_)
    refine Zg' U U h70<|Zm U<|Zg' U U h70<|Zv (ydw 3 (m:=18) U U (Enc.len ..))<|Zg' U U h70 ?_
    rotate_left
    refine Zu' U U h70 U<|Zu' U U h70 U<|Zu' U U h70 U<|Zu' U U h70 U<|Zv (ypf' U h70 U)<|Zn<|Zcf U<|Zsk<|Zxn ?_
    refine Znx<|Zrg<|Zv (yadd U U (i64w U (by omega)))<|Zm U<|Znl ?_
    rotate_left
    ·have hs3:over2 m.h m.D (j.1+1)=over2 m.h m.D j.1++[x]:=by rw [hs2];show _++(if ownB m.h x.num _=true then [x] else [])=_;rw [ho,if_pos h70]
     have hpr:over1 m.h m.q++over2 m.h m.D j.1++[x] <+: overL m:=by rw [List.append_assoc,← hs3];exact over2_pre (by omega)
     refine Zyd (hYd _ _ hpr) 6 U U U ?_ ?_
     refine Zg' U U h70<|Zv (ynot U)<|Zv (ypt' U h70 U)<|Zn<|Zcf U<|Zsk<|Zxn<|Znx<|Zrg ?_
     refine Zv (yadd U U (i64w U (by omega)))<|Zm U<|Znl ?_
     rotate_left
     refine Zg' U U h70<|Zv (ynot U)<|Zv (ypt' U h70 U)<|Zn<|Zct U<|Zrt<|Zr2<|Zr1<|Zr1 ?_
     refine Zr2<|Zr1 ?_
     rotate_left
     ·rw [List.append_assoc,← hs3]
      refine Zfx [5,5] (cacs_same hki hDi hzl2) U ?_
      refine Zlr ⟨j.1+1,hjt⟩ (by show kb.length-(j.1+1)<kb.length-j.1;omega) ⟨U,U,U,U,U,U,trivial⟩ [0,2,1,1,0] 1 U U
     ·refine Zfx [5,5] (cacs_same hki hDi hzl2) U ?_
      refine Zfx [3,7,7,7,0,5,2] (part_fold (m:=m) ok hl) U ?_
      refine Zre .n (hS.2 _ hpr) [1,1,0] 2 U U U U
    ·have hs3:over2 m.h m.D (j.1+1)=over2 m.h m.D j.1:=by rw [hs2];show _++(if ownB m.h x.num _=true then [x] else [])=_;rw [ho,if_neg (by rw [h70];decide),List.append_nil]
     rw [← hs3]
     refine Zfx [4,4] (cacs_same hki hDi hzl2) U ?_
     refine Zlr ⟨j.1+1,hjt⟩ (by show kb.length-(j.1+1)<kb.length-j.1;omega) ⟨U,U,U,U,U,U,trivial⟩ [0,1,0,0,1] 1 U U
   ·have hx:m.D[j.1].giv=none:=Option.not_isSome_iff_eq_none.1 (by rw [h63];decide)
    have hs3:over2 m.h m.D (j.1+1)=over2 m.h m.D j.1:=by rw [hs2,hx];exact List.append_nil _
    rw [← hs3]
    refine Zfx [1,1] (cacs_same hki hDi hzl2) U ?_
    refine Zlr ⟨j.1+1,hjt⟩ (by show kb.length-(j.1+1)<kb.length-j.1;omega) ⟨U,U,U,U,U,U,trivial⟩ [0,1,1,1,1] 1 U U
  ·have hj:j.1=m.D.length:=by have:=j.2;omega
   rw [hj]
   refine Zlq (ι:={ i:Nat // i≤kb.length }) (fun i=>[(82,.int .i64 (i.1:Int)),(81,.int .i64 (kb.length:Int)),(80,.slice B kb.length capb),(0,.func (.yield y) #[] #[])]) (fun i=>[.hp (cacsC (kb.zip m.D)),.hp (J (over1 m.h m.q++over2 m.h m.D m.D.length++over3 m.D i.1))]) (fun i=>kb.length-i.1) ⟨0,by omega⟩ ⟨U,U,U,U,trivial⟩ [0,3] (by rw [show over3 m.D 0=[] from rfl,List.append_nil];rfl) fun i=>Zsr<|Zv (ylt U U)<|Znq<|Zif U (fun h83=>?_) (fun h83=>?_)
   refine Zkn<|Zsq<|Zbl<|Zsr<|Zv (yea 8 own.rd U U U (by first | assumption | omega) U Tryz.underlying106 U)<|Zv (yec (m:=0) 8 own.rd U (gE (by first | assumption | omega)) U U U)<|Zy U<|Zn ?_
   refine Zsr<|Zm U ?_
   rotate_left
   refine Zex<|Zxt<|Zxt<|Zxx<|Zee ?_
   rotate_left
   ·have hjt:i.1<kb.length:=by omega
    have hki:=gE hjt
    have hDi:=gE (l:=m.D) (k:=i.1) (by omega)
    have hz2:=zip_at hki hDi
    have hzl2:=(List.getElem?_eq_some_iff.1 hz2).1
    have hs3:=over3_snc (D:=m.D) (i:=i.1) (by omega)
    refine Zol 0 (cacs_op hz2) U ?_
    refine Zol 0 cac_ok U<|fun okd=>?_
    have hal:(allL m.D[i.1].n m.D[i.1].L).length≤1048576:=by rw [allL_len okd.n0];exact Nat.le_trans okd.len (by decide)
    refine Zk (c23 kb[i.1] m.D[i.1]) [0] U U<|fun A_1=>fun cap_1=>Zq<|Zv (sl_of ⟨_,Tryz.underlying79⟩ U)<|Zm U<|Znb ?_
    refine Zfc [1,1] (cacs_same hki hDi hzl2) U ?_
    have hpre:∀ kk,over1 m.h m.q++over2 m.h m.D m.D.length++(over3 m.D i.1++dirL ((allL m.D[i.1].n m.D[i.1].L).take kk)) <+: overL m:=fun kk=>over3_pre (by omega)
    generalize hl0:allL m.D[i.1].n m.D[i.1].L=l at hal hs3 hpre ⊢
    refine Zlq (ι:={ k:Nat // k≤l.length }) (fun k=>[(89,.int .i64 (k.1:Int)),(88,.int .i64 (l.length:Int)),(87,.slice A_1 l.length cap_1),(82,.int .i64 (i.1:Int)),(81,.int .i64 (kb.length:Int)),(80,.slice B kb.length capb),(0,.func (.yield y) #[] #[])]) (fun k=>[.hp (own lnE A_1 cap_1 l),.hp (J (over1 m.h m.q++over2 m.h m.D m.D.length++(over3 m.D i.1++dirL (l.take k.1))))]) (fun k=>l.length-k.1) ⟨0,by omega⟩ ⟨U,U,U,U,U,U,U,trivial⟩ [1,1] (by rw [show dirL (l.take 0)=[] from rfl,List.append_nil];rfl) fun k=>Zsr<|Zv (ylt U U)<|Znq<|Zif U (fun h90=>?_) (fun h90=>?_)
    refine Zkn<|Zsq<|Zbl<|Zsr<|Zv (yea 0 own.rd U U U (by first | assumption | omega) U Tryz.underlying79 U)<|Zv (yel 0 own.rd U (gE (by first | assumption | omega)) U U U)<|Ze (eal z145) fun b13=>Zw<|Ze (esw 0 (m:=18) U U U U U (Enc.len ..) (Enc.allL ..))<|Zw0<|Znl ?_
    refine Zxs<|Za 4 [1,0] U U<|Zgs U U (fun h96=>?_) (fun h96=>?_)
    refine Zg' U U (dT h96)<|Zm U<|Zg' U U (dT h96)<|Zv (ydw 0 (m:=18) U U (Enc.len ..))<|Zg' U U (dT h96) ?_
    rotate_left
    refine Zu' U U (dF h96) U<|Zu' U U (dF h96) U<|Zu' U U (dF h96) U<|Zu' U U (dF h96) U<|Zv (ypf' U (dF h96) U)<|Zn<|Zcf U<|Zsk<|Zxn ?_
    refine Znx<|Zrg<|Zv (yadd U U (i64w U (by omega)))<|Zm U<|Znl ?_
    rotate_left
    refine Zex<|Zxt<|Zxt<|Zxx<|Zxn<|Znx<|Zrg<|Zv (yadd U U (i64w U (by omega)))<|Zm U<|Znl ?_
    rotate_left
    ·have hkt:k.1<l.length:=by omega
     have hs4:dirL (l.take (k.1+1))=dirL (l.take k.1)++[l[k.1]]:=by
      refine (filt_snc hkt).trans ?_
      rw [if_pos (by simpa using h96)]
      rfl
     have hpr:over1 m.h m.q++over2 m.h m.D m.D.length++(over3 m.D i.1++dirL (l.take k.1))++[l[k.1]] <+: overL m:=by
      have h9:=hpre (k.1+1)
      rw [hs4,← List.append_assoc (over3 m.D i.1),← List.append_assoc (over1 m.h m.q++over2 m.h m.D m.D.length)] at h9
      exact h9
     have hs5:over1 m.h m.q++over2 m.h m.D m.D.length++(over3 m.D i.1++dirL (l.take k.1))++[l[k.1]]=over1 m.h m.q++over2 m.h m.D m.D.length++(over3 m.D i.1++dirL (l.take (k.1+1))):=by
      rw [hs4,List.append_assoc (over1 m.h m.q++over2 m.h m.D m.D.length),List.append_assoc (over3 m.D i.1)]
     refine Zyd (hYd _ _ hpr) 2 U U U ?_ ?_
     refine Zg' U U (dT h96)<|Zv (ynot U)<|Zv (ypt' U (dT h96) U)<|Zn<|Zcf U<|Zsk<|Zxn<|Znx<|Zrg ?_
     refine Zv (yadd U U (i64w U (by omega)))<|Zm U<|Znl ?_
     rotate_left
     refine Zg' U U (dT h96)<|Zv (ynot U)<|Zv (ypt' U (dT h96) U)<|Zn<|Zct U<|Zrt<|Zr2<|Zr1<|Zr1 ?_
     refine Zr2<|Zr2<|Zr1<|Zr1<|Zr2 ?_
     rotate_left
     ·rw [hs5]
      refine Zlr ⟨k.1+1,hkt⟩ (by show l.length-(k.1+1)<l.length-k.1;omega) ⟨U,U,U,U,U,U,U,trivial⟩ [2,0] 1 U U
     ·refine Zfx [4,8,8,8,3,6,4] (part_fold (m:=m) ok hl) U ?_
      refine Zre .n (hS.2 _ hpr) [1,3,0] 3 U U U U
    ·have hkt:k.1<l.length:=by omega
     have hs4:dirL (l.take (k.1+1))=dirL (l.take k.1):=by
      refine (filt_snc hkt).trans ?_
      rw [if_neg (by simpa using h96),List.append_nil]
      rfl
     rw [← hs4]
     refine Zlr ⟨k.1+1,hkt⟩ (by show l.length-(k.1+1)<l.length-k.1;omega) ⟨U,U,U,U,U,U,U,trivial⟩ [1,1] 1 U U
    ·have hk2:k.1=l.length:=by have:=k.2;omega
     rw [show l.take k.1=l from List.take_of_length_le (by omega),← hs3]
     refine Zlr ⟨i.1+1,hjt⟩ (by show kb.length-(i.1+1)<kb.length-i.1;omega) ⟨U,U,U,U,trivial⟩ [2,1] 1 U U
   ·have hi:i.1=m.D.length:=by have:=i.2;omega
    rw [hi,show over1 m.h m.q++over2 m.h m.D m.D.length++over3 m.D m.D.length=overL m from rfl]
    refine Zfx [2,6,6,6,0,4,2] (part_fold (m:=m) ok hl) U ?_
    refine Zre .n hS.1 [1,1,0] 1 U U U U
def setB (bs:List Int) (x:Ln):List Int:=if x.num.toNat<bs.length/16 then setF bs x.num.toNat x.bs.1 else bs
def memF (m:MD):List Int:=(overL m).foldl setB m.h.bs
theorem setB_len (bs:List Int) (x:Ln):(setB bs x).length=bs.length:=by
 unfold setB
 split
 ·have:=x.bs.2.1
  simp [setF]
  omega
 ·rfl
theorem setBs_len:∀ (l:List Ln) (bs:List Int),(l.foldl setB bs).length=bs.length
 | [],_=>rfl
 | x::l,bs=>(setBs_len l (setB bs x)).trans (setB_len bs x)
theorem setBs_snc (bs:List Int) (l:List Ln) (x:Ln):(l++[x]).foldl setB bs=setB (l.foldl setB bs) x:=by rw [List.foldl_append];rfl
theorem c56s (b:Nat) (l:List Int) (x:Ln) (hl:l.length≤1048576):Sp Tryz.prog 56 [pt b,.int .u32 x.num,.agg (bsE.cells x.bs).toArray] [.hp (imgC b l)] fun K=>∀ e,K (.returned (.int .i64 e)) [.hp (imgC b (setB l x))]:=⟨fun e X w Φ hp hS=>by
 have hn:=x.hn
 have hc:=c56 b x.num.toNat l x.bs.1 x.bs.2.1 hl (by omega)
 rw [show ((x.num.toNat:Nat):Int)=x.num by omega] at hc
 refine hc.run e X w Φ hp ⟨fun h=>?_,fun h=>?_⟩
 ·have:=hS 0
  rwa [show setB l x=setF l x.num.toNat x.bs.1 from if_pos h] at this
 ·have:=hS 4
  rwa [show setB l x=l from if_neg (by omega)] at this⟩
theorem c20 (k b:Nat) (m:MD) (hk:k≤1000):Sp Tryz.prog 20 [pt b] [.hp (machC k b m)] fun K=>∀ b',K (.returned (pt b')) [.hp (imgC b' (memF m)),.hp (machC k b m)]:=by
 refine ZenM Tryz.func20 U U U fun e X Φ hS=>Zsr<|Zy U<|Znqs<|Zm U<|Zk (c35 ..) [0] U U<|Zq ?_
 refine Zn<|Zcf U<|Zks<|Za 3 [0] U U ?_
 refine Zol 0 mach_op U<|fun bp=>Zv (yd 0 U U U)<|Za 2 [3] U U ?_
 refine Zol 1 part_op U<|fun ok A cap B capb bn bh cb kb hl=>Zv (yd 0 U U U)<|Zk (c25 ..) [6] U U<|fun b'=>Zq<|Ze (eal z28) fun b3=>Zw<|Ze (es 0 U U U U U)<|Zw0<|Znq ?_
 refine Zsr<|Za 4 [0,9] U U<|Zk (c55 ..) [] U U<|fun b1=>Zq<|Zn ?_
 refine Zbl ?_
 refine Zoc 3 hom_ok U<|fun hok=>?_
 have hbl:m.h.bs.length≤1048576:=hok.l
 refine Zfc [4,4,4,4,4,4,0] (part_fold (m:=m) ok hl) U ?_
 refine Zrf (q100 k b1 bp m hk) (fun pre=>[.blk b3 28 [pt b'],.hp (imgC b' (pre.foldl setB m.h.bs))]) (fun _=>True) (fun _=>[]) (fun _=>False) (fun _ _=>[]) (fun _ _=>False) [1,0,0,0] U U trivial (fun e' y pre x F hx _=>?_) (fun D _=>?_) (fun _ _ _ h=>h.elim) (fun _ _ _ _ h=>h.elim) (fun _=>U) (by decide)
 refine Zrg<|Ze (eal z145) fun b4=>Zw<|Ze (esw 0 (m:=18) U U U U U (Enc.len ..) (Enc.allL ..))<|Zw0<|Znl<|Zak 3 U fun F'=>Zbl<|Zrg<|Za 3 [1,0,0] U U ?_
 refine Zv (yf 2 U)<|Zv (yda 0 (m:=16) U U (ln_bs' _) (Enc.len ..)) ?_
 rotate_left
 refine Zxn<|Zxs<|Za 2 [1] U U<|Znr<|Zmk 0 U ?_
 rotate_left
 ·have hpl:(pre.foldl setB m.h.bs).length≤1048576:=by rw [setBs_len];exact hbl
  refine Zk (c56s b' (pre.foldl setB m.h.bs) x hpl) [2] U U<|fun e_1=>Zq<|Znl<|Zxn ?_
  rw [← setBs_snc]
  refine Zrn trivial [2,0] 1 U U
 ·rw [show (overL m).foldl setB m.h.bs=memF m from rfl]
  refine Zfx [4,3] (mach_fold (b:=b) (m:=m)) U<|Zre (.t U .n) (hS _) [2,0] 2 U U U U
theorem mach_ok {k b:Nat} {m:MD}:Op_ (machC k b m) fun K=>m.Ok k→HOk k m.h→K [.hp (machC k b m)] := .mk fun G K h hh=>by
 have h0:=hh
 obtain ⟨bp,hs⟩:=hh
 obtain ⟨_,_,hp⟩:=hs.nth (i:=1) rfl
 obtain ⟨ok,A,cap,B,capb,bn,bh,cb,kb,hl,hs2⟩:=hp
 obtain ⟨_,_,hq⟩:=hs2.nth (i:=6) rfl
 exact ⟨_,K ok hq.1,sep_hp1 h0⟩
theorem mem_len {k:Nat} {m:MD} (h:HOk k m.h):(memF m).length≤1048576:=by
 unfold memF
 rw [setBs_len]
 exact h.l
theorem c122n (s ways:Int) (hs:s<1):Sp Tryz.prog 122 [.int .i64 s,.int .i64 ways] [] fun K=>K (.returned (.tuple #[.pointer none,.int .i64 2])) []:=by
 refine Zen Tryz.func122 U U U fun e X Φ hS=>Zsr<|Zb 2 U<|Znqs<|Zb 2 U ?_
 refine Zm U<|Zu' U U (dT hs) U<|Zu' U U (dT hs) U<|Zv (ypt' U (dT hs) U)<|Zb 6 U ?_
 refine Zb 9 U<|Znl ?_
 refine Znx<|Zct U<|Zsr<|Zb 2 U<|Znr<|Zr1<|Zre (.t U (.t U .n)) hS [] 0 U U U U
theorem c75n (i s ways:Int) (h0:0≤i) (h1:i<4) (hs:s<1):Sp Tryz.prog 75 [.int .i64 i,.int .i64 s,.int .i64 ways] [] fun K=>K (.returned (.tuple #[.pointer none,.int .i64 2])) []:=by
 refine Zen Tryz.func75 U U U fun e X Φ hS=>Zsr<|Zb 2 U<|Zns<|Zb 2 U ?_
 refine Zk (c122n s ways hs) [] U U<|Zq<|Zb 5 U<|Znq ?_
 refine Zsr<|Zb 9 U ?_
 refine Zv (ypt U U)<|Zn<|Zct U<|Zsr<|Zb 2 U<|Znr ?_
 refine Zr1<|Zre (.t U (.t U .n)) hS [] 0 U U U U
theorem right_pos {s ways:Int} (h:rightB s ways=true):1≤s:=by
 unfold rightB pow2 at h
 simp at h
 omega
theorem c75z (i s ways:Int) (h0:0≤i) (h1:i<4):Sp Tryz.prog 75 [.int .i64 i,.int .i64 s,.int .i64 ways] [] fun K=>(rightB s ways=true→∀ b,K (.returned (.tuple #[pt b,.int .i64 0])) [.hp (cacC b (newD i s.toNat ways))])∧(rightB s ways=false→K (.returned (.tuple #[.pointer none,.int .i64 2])) []):=by
 rcases (show s<1∨1≤s by omega) with h | h
 ·exact ⟨fun e X w Φ hp hS=>(c75n i s ways h0 h1 h).run e X w Φ hp (hS.2 (by
   cases hr:rightB s ways with
   | true=>have:=right_pos hr;omega
   | false=>rfl))⟩
 ·have hn:s=((s.toNat:Nat):Int):=by omega
  have hc:=c75 i s.toNat ways h0 h1
  rwa [← hn] at hc
def slE:Enc Tryz.prog (Option Addr × Nat × List Int) where
 T:=62
 n:=1
 cells:=fun x=>[.slice x.1 x.2.2.length x.2.1]
 len:=fun _=>rfl
 one:=fun x v hv=>by
  rw [List.mem_singleton] at hv
  subst hv
  rfl
 pos:=by decide
structure Cds (c:Ck) (A:Option Addr) (cap:Nat) (l:List (Option Addr × Nat × List Int)):Prop where
 r:Rd slE c A cap l
 w:∀ x∈l,x.2.1≠0→Rd u32E c x.1 x.2.1 x.2.2
 z:∀ x∈l,x.2.1=0→x.2.2=[]
 n:∀ x∈l,x.1=none→x.2.2=[]∧x.2.1=0
 u:∀ x∈l,∀ a∈x.2.2,U32 a
abbrev cdsOf (l:List (Option Addr × Nat × List Int)):List (List Int):=l.map (·.2.2)
def newC (i:Nat) (size:Int) (code:List Int):Cor:=⟨hrt0 i,code,size,[],0,none⟩
def cachesF (sets ways:Int) (n:Nat):List CD:=(List.range n).map fun i=>newD (i:Nat) sets.toNat ways
def newM (cs:List (List Int)) (bs:List Int) (sets ways:Int):MD:=⟨(List.range cs.length).map fun i=>newC i (bs.length:Int) (cs.getD i []),cachesF sets ways cs.length,1024,[],home0 bs⟩
def newOk (cs:List (List Int)) (sets ways:Int):Bool:=decide (1≤cs.length) && decide (cs.length≤4) && rightB sets ways && cs.all fun c=>decide (c.length≤1024)
theorem newM_C {l:List (Option Addr × Nat × List Int)} {bs:List Int} {sets ways:Int} {i:Nat} (h:i<l.length):(newM (cdsOf l) bs sets ways).C[i]? = some (newC i (bs.length:Int) l[i].2.2):=by
 show ((List.range (cdsOf l).length).map _)[i]? = _
 rw [List.getElem?_map,List.getElem?_range (by rw [List.length_map];exact h)]
 simp [h]
theorem newM_D {l:List (Option Addr × Nat × List Int)} {bs:List Int} {sets ways:Int} {i:Nat} (h:i<l.length):(newM (cdsOf l) bs sets ways).D[i]? = some (newD (i:Nat) sets.toNat ways):=by
 show ((List.range (cdsOf l).length).map _)[i]? = _
 rw [List.getElem?_map,List.getElem?_range (by rw [List.length_map];exact h)]
 rfl
theorem newOk_no1 {l:List (Option Addr × Nat × List Int)} {sets ways:Int} {i:Nat} (h:i<l.length) (hc:¬ l[i].2.2.length≤1024):newOk (cdsOf l) sets ways=false:=by
 cases hn:newOk (cdsOf l) sets ways with
 | false=>rfl
 | true=>
  exfalso
  unfold newOk at hn
  simp only [Bool.and_eq_true,List.all_eq_true] at hn
  exact hc (of_decide_eq_true (hn.2 _ (List.mem_map.2 ⟨l[i],List.getElem_mem h,rfl⟩)))
theorem newOk_no2 {l:List (List Int)} {sets ways:Int} (h:rightB sets ways=false):newOk l sets ways=false:=by
 unfold newOk
 rw [h]
 simp
theorem newOk_yes {l:List (Option Addr × Nat × List Int)} {sets ways:Int} (h1:1≤l.length) (h4:l.length≤4) (hr:rightB sets ways=true) (hc:∀ (i:Nat) (h:i<l.length),l[i].2.2.length≤1024):newOk (cdsOf l) sets ways=true:=by
 unfold newOk
 rw [hr]
 simp only [Bool.and_eq_true,List.all_eq_true,decide_eq_true_eq,List.length_map]
 refine ⟨⟨⟨h1,h4⟩,trivial⟩,fun x hx=>?_⟩
 obtain ⟨y,hy,rfl⟩:=List.mem_map.1 hx
 obtain ⟨i,hi,rfl⟩:=List.getElem_of_mem hy
 exact hc i hi
structure NwI (l:List (Option Addr × Nat × List Int)) (sets ways:Int) (c:Cpy):Prop where
 i:c.i≤l.length
 nb:c.nb.length=c.i
 nk:c.nk.length=c.i
 r:0<c.i→rightB sets ways=true
 k:∀ (j:Nat) (h:j<l.length),j<c.i→l[j].2.2.length≤1024
theorem c32 (c:Ck) (A:Option Addr) (cap:Nat) (l:List (Option Addr × Nat × List Int)) (bi:Nat) (bs:List Int) (sets ways:Int) (hC:Cds c A cap l) (hz:szF bs.length=false) (hr:∀ a∈bs,0≤a∧a<256):Sp Tryz.prog 32 [.slice A l.length cap,pt bi,.int .i64 sets,.int .i64 ways] [.hp (imgC bi bs),c] fun K=>
  (newOk (cdsOf l) sets ways=true→∀ b,K (.returned (.tuple #[pt b,.int .i64 0])) [.hp (machC 0 b (newM (cdsOf l) bs sets ways)),.hp (imgC bi bs),c])∧(newOk (cdsOf l) sets ways=false→K (.returned (.tuple #[.pointer none,.int .i64 2])) [.hp (imgC bi bs),c]):=by
 obtain ⟨z1,z2⟩:16≤bs.length∧bs.length≤4096:=by
  unfold szF at hz
  simp only [Bool.or_eq_false_iff,decide_eq_false_iff_not] at hz
  omega
 have hRc:=hC.r
 have hmx:(1:Int)≤1024∧(1024:Int)≤1024:=by decide
 refine Zen Tryz.func32 U U U fun e X Φ hS=>Zsr<|Zb 2 U<|Zns<|Zm U ?_
 refine Zk (c71 bi bs (by omega) (by omega) hr) [0] U U<|fun b'=>Zq<|Zb 5 U<|Zn ?_
 refine Zsq<|Zsr<|Zb 2 U<|Zn<|Zcf U<|Zkn<|Zsq ?_
 refine Zsr<|Zm U<|Zv (sl_of ⟨_,Tryz.underlying22⟩ U)<|Zb 2 U<|Zgs U U (fun h30=>?_) (fun h30=>?_)
 refine Zu' U U (dT h30) U<|Zu' U U (dT h30) U<|Zu' U U (dT h30) U<|Zv (ypt' U (dT h30) U)<|Zn<|Zct U<|Zsr<|Zb 2 U ?_
 refine Znr<|Zr1 ?_
 rotate_left
 refine Zg' U U (dF h30)<|Zm U<|Zg' U U (dF h30)<|Zv (sl_of ⟨_,Tryz.underlying22⟩ U)<|Zg' U U (dF h30)<|Zv (ygt U U)<|Zv (ypf' U (dF h30) U)<|Zn<|Zif U (fun h34=>?_) (fun h34=>?_)
 refine Zsr<|Zb 2 U<|Znr<|Zr1 ?_
 rotate_left
 refine Zks<|Zm U<|Zv (yb l108 U)<|Ze (ebx U) fun b37=>Zw<|Zy U<|Zns ?_
 refine Zm U ?_
 rotate_left
 ·refine Zre (.t U (.t U .n)) (hS.2 (by unfold newOk;rw [dF (by rw [List.length_map];omega)];rfl)) [1,1] 1 U U U U
 ·refine Zre (.t U (.t U .n)) (hS.2 (by unfold newOk;rw [dF (p:=(cdsOf l).length≤4) (by rw [List.length_map];omega)];simp)) [1,1] 1 U U U U
 ·refine Zk (c72 1024 hmx) [] U U<|fun b=>Zq<|Za 5 [2] U U<|Ze (es 1 U U U U U)<|Zw0<|Znl ?_
  refine Zxq<|Zsr<|Zm U<|Zv (sl_of ⟨_,Tryz.underlying22⟩ U)<|Zm U<|Znb ?_
  refine Zic (fun _ hs=>sep_nil (E:=ptrE 74) hs) ?_
  refine Zic (fun _ hs=>sep_nil (E:=ptrE 80) hs) ?_
  refine Zic (fun _ hs=>many_nil (F:=fun x:Nat × Cor=>corC 0 x.1 x.2) hs) ?_
  refine Zic (fun _ hs=>many_nil (F:=fun x:Nat × CD=>cacC x.1 x.2) hs) ?_
  refine Zlq (ι:={ p:Cpy // NwI l sets ways p }) (fun p=>[(47,.int .i64 (p.1.i:Int)),(46,.int .i64 (l.length:Int)),(45,.slice A l.length cap),(1,pt bi),(2,.int .i64 sets),(3,.int .i64 ways),(12,pt b37)]) (fun p=>[.blk b37 108 [.slice p.1.A p.1.nb.length p.1.cap,.slice p.1.B p.1.nk.length p.1.capb,pt b,pt b'],.hp (own (ptrE 74) p.1.A p.1.cap p.1.nb),.hp (own (ptrE 80) p.1.B p.1.capb p.1.nk),.hp (corsC 0 (p.1.nb.zip ((newM (cdsOf l) bs sets ways).C.take p.1.i))),.hp (cacsC (p.1.nk.zip ((newM (cdsOf l) bs sets ways).D.take p.1.i))),.hp (imgC bi bs),c]) (fun p=>l.length-p.1.i) ⟨⟨0,none,0,none,0,[],[]⟩,⟨Nat.zero_le _,U,U,fun h=>absurd h (Nat.lt_irrefl 0),fun j _ h=>absurd h (Nat.not_lt_zero j)⟩⟩ ⟨U,U,U,U,U,U,U,trivial⟩ [5,3,2,1,0,2,2] U fun p=>Zsr<|Zv (ylt U U)<|Znq<|Zif U (fun h48=>?_) (fun h48=>?_)
  refine Zkn<|Zsq<|Zbl<|Zsr<|Zm U<|Zv (yea 6 hRc U U U (by first | assumption | omega) U Tryz.underlying22 U) ?_
  rotate_left
  refine Zex<|Zxt<|Zxt<|Zxx<|Zxs<|Zm U<|Zv (yb l104 U)<|Ze (ebx U) fun b96=>Zw<|Zy U ?_
  refine Zy U<|Znr ?_
  rotate_left
  ·have hI:=p.2
   have hlt:p.1.i<l.length:=by omega
   have hmem:=List.getElem_mem hlt
   have hRw:=hC.w _ hmem
   have hzw:=hC.z _ hmem
   have hnw:=hC.n _ hmem
   have huw:=hC.u _ hmem
   have hi4:((p.1.i:Nat):Int)<4:=by omega
   have hi0:(0:Int)≤((p.1.i:Nat):Int):=by omega
   refine Zv (yec (m:=0) 6 hRc U (gE (by first | assumption | omega)) U U U)<|Zb 2 U<|Zns<|Zb 3 U<|Zk (c74 ..) [5] U U ?_
   refine Zq ?_
   refine Zk (c73u ((p.1.i:Nat):Int) c l[p.1.i].1 l[p.1.i].2.1 l[p.1.i].2.2 (bs.length:Int) hi0 hi4 hRw hzw hnw huw) [6] U U<|⟨?_,?_⟩
   refine fun a=>fun b_1=>Zq <| Zv (ym rfl) <| Zv (yx rfl rfl) <| Zv (yx rfl rfl) <| Zv (ya rfl) <| Zv (ya rfl) <| Znl <| Znx ?_
   refine Zsr<|Zb 3 U ?_
   rotate_left
   refine fun a=>Zq <| Zv (ym rfl) <| Zv (yx rfl rfl) <| Zv (yx rfl rfl) <| Zv (ya rfl) <| Zv (ya rfl) <| Znl <| Znx <| Zsr ?_
   refine Zb 3 U ?_
   rotate_left
   ·refine Zk (c75z ((p.1.i:Nat):Int) sets ways hi0 hi4) [] U U<|⟨?_,?_⟩
    refine fun a_1=>fun b_2=>Zq <| Zv (ym rfl) <| Zv (yx rfl rfl) <| Zv (yx rfl rfl) <| Zv (ya rfl) <| Zv (ya rfl) <| Znl <| Znx ?_
    refine Zsq<|Zsr<|Zb 6 U ?_
    refine Zn<|Zcf U<|Zkn ?_
    rotate_left
    refine fun a_1=>Zq <| Zv (ym rfl) <| Zv (yx rfl rfl) <| Zv (yx rfl rfl) <| Zv (ya rfl) <| Zv (ya rfl) <| Znl <| Znx <| Zsq ?_
    refine Zsr<|Zb 6 U<|Znl ?_
    refine Znx<|Zct U<|Zsr<|Zb 2 U<|Znr<|Zr1<|Zr2 ?_
    refine Zr1<|Zr1<|Zr2<|Zr1 ?_
    rotate_left
    ·have hCi:=newM_C (bs:=bs) (sets:=sets) (ways:=ways) hlt
     have hDi:=newM_D (bs:=bs) (sets:=sets) (ways:=ways) hlt
     have hI1:=hI.nb
     have hI2:=hI.nk
     have hm1:p.1.nb.length+1≤maxLen:=Nat.le_trans (show _≤1048576 by omega) (by decide)
     have hm2:p.1.nk.length+1≤maxLen:=Nat.le_trans (show _≤1048576 by omega) (by decide)
     have hN:∀ A' cap' B' capb',NwI l sets ways ⟨p.1.i+1,A',cap',B',capb',p.1.nb++[b_1],p.1.nk++[b_2]⟩:=fun _ _ _ _=>⟨hlt,by rw [List.length_append,hI1];rfl,by rw [List.length_append,hI2];rfl,fun _=>a_1,fun j hj hji=>by
      rcases Nat.lt_or_ge j p.1.i with h | h
      ·exact hI.k j hj h
      ·have:j=p.1.i:=by
        have:j<p.1.i+1:=hji
        omega
       subst this
       exact a.1⟩
     refine Zhu_ 16 1 [5,5] U U U U<|Zht 0 U (ym U)<|Zht 2 U (ym U)<|Zht 3 U (yn U)<|Zht 4 U (yf 0 U)<|Zht 5 U (yd 4 U U U)<|Zht 6 U (ym U)<|Zht 9 U (ym U)<|Zht 10 U (yn U)<|Zht 11 U (yf 1 U) ?_
     refine Zht 12 U (yd 4 U U U)<|Zht 13 U (ym U)<|ZH2 7 14 (Zoe U (ebp elCor U) fun A80=>Zwh 3 U ?_) (Zoe U (ebp elCac U) fun A87=>Zwh 3 U ?_)
     rotate_left
     refine ZH1 7<|Zoe U (ebp elCor U) fun A80=>Zwh 4 U ?_
     rotate_left
     ·refine ZH2 8 14 (Zoe U (eap' 1 0 elCor U U U own.rd U U U (fun _ _=>U) (by simp;omega) hm1)<|fun A' cap'=>Zwh 3 U ?_) (Zoe U (ebp elCac U)<|fun A87=>Zwh 4 U ?_)
      ·refine ZH1 14<|Zoe U (ebp elCac U) fun A87=>Zwh 4 U ?_
       refine ZH1 15<|Zoe U (eap' 3 0 elCac U U U own.rd U U U (fun _ _=>U) (by simp;omega) hm2)<|fun B' capb'=>Zwh 4 U<|ZHn<|Ztl U<|Ztv (yn U)<|Ztv (yf 0 U)<|Zte (es 8 U U U U U)<|Ztw<|Ztv (yn U)<|Ztv (yf 1 U)<|Zte (es 8 U U U U U)<|Ztw<|Ztn ?_
       refine Zxn<|Znx<|Zrg<|Zv (yadd U U (i64w U (by omega)))<|Zm U<|Znl ?_
       refine Zfx [4,9] (cacs_snc (b:=b_2) hI.nk hDi) U ?_
       refine Zfx [5,8] (cors_snc (b:=b_1) hI.nb hCi) U ?_
       refine Zlr ⟨⟨p.1.i+1,A',cap',B',capb',p.1.nb++[b_1],p.1.nk++[b_2]⟩,hN A' cap' B' capb'⟩ (by show l.length-(p.1.i+1)<l.length-p.1.i;omega) ⟨U,U,U,U,U,U,U,trivial⟩ [8,4,4,0,0,3,2] 2 U U
      ·refine ZH1 8<|Zoe U (eap' 2 1 elCor U U U own.rd U U U (fun _ _=>U) (by simp;omega) hm1)<|fun A' cap'=>Zwh 4 U ?_
       refine ZH1 15<|Zoe U (eap' 3 0 elCac U U U own.rd U U U (fun _ _=>U) (by simp;omega) hm2)<|fun B' capb'=>Zwh 4 U<|ZHn<|Ztl U<|Ztv (yn U)<|Ztv (yf 0 U)<|Zte (es 8 U U U U U)<|Ztw<|Ztv (yn U)<|Ztv (yf 1 U)<|Zte (es 8 U U U U U)<|Ztw<|Ztn ?_
       refine Zxn<|Znx<|Zrg<|Zv (yadd U U (i64w U (by omega)))<|Zm U<|Znl ?_
       refine Zfx [4,9] (cacs_snc (b:=b_2) hI.nk hDi) U ?_
       refine Zfx [5,8] (cors_snc (b:=b_1) hI.nb hCi) U ?_
       refine Zlr ⟨⟨p.1.i+1,A',cap',B',capb',p.1.nb++[b_1],p.1.nk++[b_2]⟩,hN A' cap' B' capb'⟩ (by show l.length-(p.1.i+1)<l.length-p.1.i;omega) ⟨U,U,U,U,U,U,U,trivial⟩ [8,4,4,0,0,3,2] 2 U U
     ·refine ZH1 8<|Zoe U (eap' 2 0 elCor U U U own.rd U U U (fun _ _=>U) (by simp;omega) hm1)<|fun A' cap'=>Zwh 4 U ?_
      refine ZH1 15<|Zoe U (eap' 3 1 elCac U U U own.rd U U U (fun _ _=>U) (by simp;omega) hm2)<|fun B' capb'=>Zwh 4 U<|ZHn<|Ztl U<|Ztv (yn U)<|Ztv (yf 0 U)<|Zte (es 8 U U U U U)<|Ztw<|Ztv (yn U)<|Ztv (yf 1 U)<|Zte (es 8 U U U U U)<|Ztw<|Ztn ?_
      refine Zxn<|Znx<|Zrg<|Zv (yadd U U (i64w U (by omega)))<|Zm U<|Znl ?_
      refine Zfx [4,9] (cacs_snc (b:=b_2) hI.nk hDi) U ?_
      refine Zfx [5,8] (cors_snc (b:=b_1) hI.nb hCi) U ?_
      refine Zlr ⟨⟨p.1.i+1,A',cap',B',capb',p.1.nb++[b_1],p.1.nk++[b_2]⟩,hN A' cap' B' capb'⟩ (by show l.length-(p.1.i+1)<l.length-p.1.i;omega) ⟨U,U,U,U,U,U,U,trivial⟩ [8,4,4,0,0,3,2] 2 U U
    ·refine Zre (.t U (.t U .n)) (hS.2 (newOk_no2 a_1)) [2,1] 8 U U U U
   ·refine Zk (c75z ((p.1.i:Nat):Int) sets ways hi0 hi4) [] U U<|⟨?_,?_⟩
    refine fun a_1=>fun b_1=>Zq <| Zv (ym rfl) <| Zv (yx rfl rfl) <| Zv (yx rfl rfl) <| Zv (ya rfl) <| Zv (ya rfl) <| Znl <| Znx ?_
    refine Zsq<|Zsr<|Zb 6 U<|Zn ?_
    refine Zct U<|Zsr<|Zb 2 U<|Znr<|Zr1<|Zr2<|Zr1 ?_
    refine Zr1<|Zr2<|Zr1 ?_
    rotate_left
    refine fun a_1=>Zq <| Zv (ym rfl) <| Zv (yx rfl rfl) <| Zv (yx rfl rfl) <| Zv (ya rfl) <| Zv (ya rfl) <| Znl <| Znx <| Zsq ?_
    refine Zsr<|Zb 6 U<|Zn<|Zct U ?_
    refine Zsr<|Zb 2 U<|Znr<|Zr1<|Zr2<|Zr1<|Zr1 ?_
    refine Zr2<|Zr1 ?_
    rotate_left
    ·refine Zre (.t U (.t U .n)) (hS.2 (newOk_no1 hlt fun h=>a ⟨h,by omega,by omega⟩)) [2,1] 8 U U U U
    ·refine Zre (.t U (.t U .n)) (hS.2 (newOk_no1 hlt fun h=>a ⟨h,by omega,by omega⟩)) [1,0] 7 U U U U
  ·have hI:=p.2
   have hI0:=hI.i
   have hI1:=hI.nb
   have hI2:=hI.nk
   have hCl:(newM (cdsOf l) bs sets ways).C.length=l.length:=by simp [newM]
   have hDl:(newM (cdsOf l) bs sets ways).D.length=l.length:=by simp [newM,cachesF]
   rw [show (newM (cdsOf l) bs sets ways).C.take p.1.i=(newM (cdsOf l) bs sets ways).C from List.take_of_length_le (by omega),show (newM (cdsOf l) bs sets ways).D.take p.1.i=(newM (cdsOf l) bs sets ways).D from List.take_of_length_le (by omega)]
   have okN:(newM (cdsOf l) bs sets ways).Ok 0:=⟨by omega,by omega,by omega,by show (1:Int)≤1024;decide,by show (1024:Int)≤1024;decide,by show ((0:Nat):Int)≤1024;decide⟩
   have hy:=newOk_yes (l:=l) (by omega) (by omega) (hI.r (by omega)) (fun j h=>hI.k j h (by omega))
   refine Zfx [1,1,1,1,1,3,3] (part_fold (b:=b37) (bn:=b) (bh:=b') (m:=newM (cdsOf l) bs sets ways) okN ⟨by omega,by omega⟩) U ?_
   refine Zfx [1,0] (mach_fold (b:=b96) (m:=newM (cdsOf l) bs sets ways)) U ?_
   refine Zre (.t U (.t U .n)) (hS.1 hy _) [0,0,0] 0 U U U U
structure Wld where
 A:Option Addr
 cap:Nat
 l:List (Option Addr × Nat × List Int)
 B:Option Addr
 capb:Nat
 bs:List Int
 sets:Int
 ways:Int
def Wld.cells (x:Wld):List Value:=[.slice x.A x.l.length x.cap,.slice x.B x.bs.length x.capb,.int .i64 x.sets,.int .i64 x.ways]
structure Wld.In (c:Ck) (x:Wld):Prop where
 cds:Cds c x.A x.cap x.l
 b:Rd u8E c x.B x.capb x.bs
 r:∀ a∈x.bs,0≤a∧a<256
def Wld.ok (x:Wld):Bool := !szF x.bs.length && newOk (cdsOf x.l) x.sets x.ways
def Wld.m (x:Wld):MD:=newM (cdsOf x.l) x.bs x.sets x.ways
theorem c7 (c:Ck) (x:Wld) (h:x.In c):Sp Tryz.prog 7 [.agg x.cells.toArray] [c] fun K=>(x.ok=true→∀ b bi,K (.returned (.tuple #[pt b,pt bi])) [.hp (machC 0 b x.m),.hp (imgC bi x.bs),c])∧(x.ok=false→K (.returned (.tuple #[.pointer none,.pointer none])) [c]):=by
 have hb:=h.b
 refine Zen Tryz.func7 U U U fun e X Φ hS=>Zsr<|Ze (ebx U) fun b1=>Zw<|Zb 2 U<|Zns<|Za 2 [1,0] U U ?_
 refine Zk (c31 c x.B x.capb x.bs hb) [1] U U<|⟨?_,?_⟩
 refine fun a=>Zq <| Zv (ym rfl) <| Zv (yx rfl rfl) <| Zv (yx rfl rfl) <| Zv (ya rfl) <| Zv (ya rfl) <| Znl <| Znx <| Zsq ?_
 refine Zsr<|Zb 2 U<|Zn<|Zct U<|Zsr<|Zb 2 U<|Znl ?_
 refine Zxr<|Zr1 ?_
 rotate_left
 refine fun a=>fun b=>Zq <| Zv (ym rfl) <| Zv (yx rfl rfl) <| Zv (yx rfl rfl) <| Zv (ya rfl) <| Zv (ya rfl) <| Znl <| Znx ?_
 refine Zsq<|Zsr<|Zb 2 U<|Zn<|Zcf U<|Zks ?_
 refine Za 7 [0,2,2,2,3,2] U U ?_
 rotate_left
 ·refine Zre (.t U (.t U .n)) (hS.2 (by unfold Wld.ok;rw [a];rfl)) [0] 1 U U U U
 ·refine Zk (c32 c x.A x.cap x.l b x.bs x.sets x.ways h.cds a h.r) [0,0] U U<|⟨?_,?_⟩
  refine fun a_1=>fun b_1=>Zq <| Zv (ym rfl) <| Zv (yx rfl rfl) <| Zv (yx rfl rfl) <| Zv (ya rfl) <| Zv (ya rfl) <| Znl <| Znx ?_
  refine Zsq<|Zsr<|Zb 2 U<|Zn<|Zcf U<|Zks ?_
  refine Zb 4 U<|Znr ?_
  rotate_left
  refine fun a_1=>Zq <| Zv (ym rfl) <| Zv (yx rfl rfl) <| Zv (yx rfl rfl) <| Zv (ya rfl) <| Zv (ya rfl) <| Znl <| Znx <| Zsq ?_
  refine Zsr<|Zb 2 U<|Zn<|Zct U<|Zsr<|Zb 2 U<|Znl ?_
  refine Zxr<|Zr1 ?_
  rotate_left
  ·refine Zre (.t U (.t U .n)) (hS.1 (by unfold Wld.ok;rw [a,a_1];rfl) _ _) [0,0,0] 1 U U U U
  ·refine Zre (.t U (.t U .n)) (hS.2 (by unfold Wld.ok;rw [a,a_1];rfl)) [1] 2 U U U U
structure Wld.Few (x:Wld) (n:Nat):Prop where
 b:x.bs.length≤128
 n:n≤200
theorem c8 (c:Ck) (x:Wld) (h:x.In c) (C:Option Addr) (capc n:Nat):Sp Tryz.prog 8 [.agg x.cells.toArray,.slice C n capc] [c] fun K=>K (.returned (.bool true)) [c]∧(x.Few n→K (.returned (.bool false)) [c]):=by
 have hRc:=h.cds.r
 refine Zen Tryz.func8 U U U fun e X Φ hS=>Zsr<|Ze (ebx U) fun b2=>Zw<|Zy U<|Zns<|Zy U<|Zn ?_
 refine Zsq<|Zsr<|Zy U<|Znb ?_
 refine Zlq (ι:={ p:Nat × Int // p.1≤x.l.length∧p.1≤8 }) (fun p=>[(6,.int .i64 (p.1.1:Int)),(5,.int .i64 p.1.2),(2,pt b2),(1,.slice C n capc)]) (fun _=>[.blk b2 25 x.cells,c]) (fun p=>8-p.1.1) ⟨(0,0),Nat.zero_le _,Nat.zero_le _⟩ ⟨U,U,U,U,trivial⟩ [0,0] U fun p=>Zsq<|Zsr<|Za 3 [0,0] U U<|Zv (sl_of ⟨_,Tryz.underlying22⟩ U)<|Zb 2 U<|Zgs U U (fun h12=>?_) (fun h12=>?_)
 refine Zg' U U (dT h12)<|Zm U<|Zg' U U (dT h12)<|Zv (ylt U U)<|Zv (ypt' U (dT h12) U)<|Zn<|Zif U (fun h15=>?_) (fun h15=>?_)
 refine Zkn<|Zsq<|Zbl<|Zsr<|Za 4 [0,0] U U<|Zv (yea 1 hRc U U U (by first | assumption | omega) U Tryz.underlying22 U) ?_
 refine Zv (yec (m:=0) 1 hRc U (gE (by first | assumption | omega)) U U U)<|Zv (sl_of ⟨_,Tryz.underlying62⟩ U)<|Zv (yadd U U U)<|Zy U<|Zns<|Zb 2 U<|Znl ?_
 refine Znx<|Zif U (fun h27=>?_) (fun h27=>?_)
 refine Zsr<|Zy U<|Znr<|Zr2<|Zr1<|Zr1<|Zr2<|Zr1 ?_
 rotate_left
 refine Zsk<|Zxn<|Znx<|Zrg<|Zm U<|Zv (yadd U U (i64w U (by omega)))<|Zy U<|Znl ?_
 rotate_left
 refine Zex<|Zxt<|Zxt<|Zxx<|Zxs<|Za 2 [1,0] U U<|Zv (sl_of ⟨_,Tryz.underlying23⟩ U)<|Zv (ygt U U) ?_
 refine Zm U<|Zgs U U (fun h32=>?_) (fun h32=>?_)
 refine Zu' U U (dT h32) U<|Zu' U U (dT h32) U<|Zu' U U (dT h32) U<|Zv (ypt' U (dT h32) U)<|Zy U<|Znr ?_
 rotate_left
 refine Zg' U U (dF h32)<|Zm U<|Zg' U U (dF h32)<|Zv (sl_of ⟨_,Tryz.underlying26⟩ U)<|Zg' U U (dF h32)<|Zv (ygt U U)<|Zv (ypf' U (dF h32) U)<|Zy U<|Zn ?_
 refine Zrt ?_
 rotate_left
 refine Zu' U U (dF h12) U<|Zu' U U (dF h12) U<|Zv (ypf' U (dF h12) U)<|Zn<|Zcf U<|Zex<|Zxt<|Zxt<|Zxx ?_
 refine Zxs<|Za 2 [1,0] U U<|Zv (sl_of ⟨_,Tryz.underlying23⟩ U)<|Zb 2 U<|Zgs U U (fun h32=>?_) (fun h32=>?_)
 refine Zu' U U (dT h32) U<|Zu' U U (dT h32) U<|Zu' U U (dT h32) U<|Zv (ypt' U (dT h32) U)<|Zy U<|Znr ?_
 rotate_left
 refine Zg' U U (dF h32)<|Zm U<|Zg' U U (dF h32)<|Zv (sl_of ⟨_,Tryz.underlying26⟩ U)<|Zg' U U (dF h32)<|Zv (ygt U U)<|Zv (ypf' U (dF h32) U)<|Zy U<|Zn ?_
 refine Zrt ?_
 rotate_left
 ·refine Zre (.t U .n) hS.1 [1] 1 U U U U
 ·refine Zlr ⟨(p.1.1+1,_),by show p.1.1+1≤_∧p.1.1+1≤8;omega⟩ (by show 8-(p.1.1+1)<8-p.1.1;omega) ⟨U,U,U,U,trivial⟩ [0,0] 0 U U
 ·refine Zre (.t U .n) hS.1 [1] 1 U U U U
 ·by_cases hn:(200:Int)<n
  ·rw [dT hn]
   refine Zre (.t U .n) hS.1 [1] 1 U U U U
  ·rw [dF hn]
   refine Zre (.t U .n) (hS.2 ⟨by omega,by omega⟩) [1] 1 U U U U
 ·refine Zre (.t U .n) hS.1 [1] 1 U U U U
 ·by_cases hn:(200:Int)<n
  ·rw [dT hn]
   refine Zre (.t U .n) hS.1 [1] 1 U U U U
  ·rw [dF hn]
   refine Zre (.t U .n) (hS.2 ⟨by omega,by omega⟩) [1] 1 U U U U
theorem newM_in {cs:List (List Int)} {bs:List Int} {sets ways:Int} (h:newOk cs sets ways=true):(newM cs bs sets ways).In∧(newM cs bs sets ways).C.length≤4:=by
 unfold newOk at h
 simp only [Bool.and_eq_true,decide_eq_true_eq] at h
 have h1:=h.1.1.1
 have h4:=h.1.1.2
 have hC:(newM cs bs sets ways).C.length=cs.length:=by simp [newM]
 refine ⟨⟨fun i d hd=>?_,by simp [newM,cachesF],by omega,fun y hy=>(by cases hy),fun i=>?_⟩,by omega⟩
 ·have hd:((List.range cs.length).map fun i=>newD (i:Nat) sets.toNat ways)[i]? = some d:=hd
  rw [List.getElem?_map] at hd
  cases hr:(List.range cs.length)[i]? with
  | none=>rw [hr] at hd;cases hd
  | some j=>
   rw [hr] at hd
   obtain ⟨_,hj⟩:=List.getElem?_eq_some_iff.1 hr
   rw [List.getElem_range] at hj
   subst hj
   cases hd
   rfl
 ·show EnIn _ (entOf (List.replicate _ ent0) i)
  rw [ent_rep]
  exact en0 (by omega)
theorem c77 (c:Ck) (A:Option Addr) (cap b1:Nat) (l:List Int) (hR:Rd u8E c A cap l) (hl:l.length=4) (hr:∀ a∈l,0≤a∧a<256):Sp Tryz.prog 77 [.slice A l.length cap,pt b1] [.blk b1 40 [.int .u32 0],c] fun K=>K (.returned (.tuple #[])) [.blk b1 40 [.int .u32 (rdR l 0 l.length)],c]:=by
 refine Zen Tryz.func77 U U U fun e X Φ hS=>Zsr<|Zm U<|Zv (sl_of ⟨_,Tryz.underlying23⟩ U)<|Zm U<|Znb ?_
 refine Zlq (ι:={ i:Nat // i≤l.length }) (fun i=>[(7,.int .i64 (i.1:Int)),(6,.int .i64 (l.length:Int)),(5,.slice A l.length cap),(1,pt b1)]) (fun i=>[.blk b1 40 [.int .u32 (rdR l 0 i.1)],c]) (fun i=>l.length-i.1) ⟨0,by omega⟩ ⟨U,U,U,U,trivial⟩ [0,0] U fun i=>Zsr<|Zv (ylt U U)<|Znq<|Zif U (fun h8=>?_) (fun h8=>?_)
 refine Zkn<|Zsq<|Zbl<|Zsr<|Zm U<|Zv (yea 1 hR U U U (by first | assumption | omega) U Tryz.underlying23 U)<|Zv (yec (m:=0) 1 hR U (gE (by first | assumption | omega)) U U U)<|Zb 2 U ?_
 refine Zn<|Zhe 7 U<|Zht 0 U (yd 0 U U U)<|Zht 1 U (ym U)<|Zht 2 U (ycv Tryz.underlying5 Tryz.underlying40 U U)<|Zht 3 U (ym U)<|Zht 4 U (ymul U U (i64w U (by omega)))<|Zht 5 U (yshl U U (by omega) U)<|Zht 6 U (yor U U U) ?_
 refine ZHn<|Ztl U<|Zte (es 0 U U U U U)<|Ztw<|Ztn<|Zxn<|Znx<|Zrg<|Zv (yadd U U (i64w U (by omega)))<|Zm U<|Znl ?_
 rotate_left
 refine Zex<|Zxt<|Zxt<|Zxx<|Zee ?_
 rotate_left
 ·have hb:=hr _ (List.getElem_mem (show i.1<l.length by omega))
  have e1:l.getD (0+i.1) 0=l[i.1]:=by simp [List.getD,show i.1<l.length by omega]
  rw [← e1] at hb ⊢
  have e2:IntKind.u32.wrap (l.getD (0+i.1) 0)=l.getD (0+i.1) 0:=u32w rfl (by omega)
  have e3:min (8*(i.1:Int)).toNat IntKind.u32.bits=min (8*i.1) 32:=by
   rw [show (8*(i.1:Int)).toNat=8*i.1 by omega]
   rfl
  rw [e2,e3,show IntKind.u32.wrap ((BitVec.ofInt IntKind.u32.bits (rdR l 0 i.1) ||| BitVec.ofInt IntKind.u32.bits (IntKind.u32.wrap (l.getD (0+i.1) 0*2 ^ min (8*i.1) 32))).toNat:Int)=rdR l 0 (i.1+1) from rfl]
  refine Zlr ⟨i.1+1,by omega⟩ (by show l.length-(i.1+1)<l.length-i.1;omega) ⟨U,U,U,U,trivial⟩ [0,0] 0 U U
 ·have hi:i.1=l.length:=by have:=i.2;omega
  rw [hi]
  refine Zre .n hS [0,0] 0 U U U U
theorem c76 (b b1:Nat) (l:List Int) (hl:16≤l.length) (hl2:l.length≤1048576) (hr:∀ a∈l,0≤a∧a<256):Sp Tryz.prog 76 [pt b,.int .u32 0,.int .i64 4,.func (.func 77) #[] #[pt b1]] [.hp (imgC b l),.blk b1 40 [.int .u32 0]] fun K=>K (.returned (.int .i64 0)) [.hp (imgC b l),.blk b1 40 [.int .u32 (rdR (l.take 4) 0 4)]]:=by
 have hl4:((l.take 4).drop 0).length=4:=by simp;omega
 have hr4:∀ a∈(l.take 4).drop 0,0≤a∧a<256:=fun a ha=>hr a (List.mem_of_mem_take (List.mem_of_mem_drop ha))
 refine Zen Tryz.func76 U U U fun e X Φ hS=>Zsr<|Zy U<|Zns<|Ze (emk .i64) fun r11=>Zw<|Ze (ein 0 U U U U U U Tryz.underlying241 Tryz.underlying3)<|Zw0<|Ze (ein 0 U U U U U U Tryz.underlying241 Tryz.underlying3)<|Zw0<|Ze (ein 0 U U U U U U Tryz.underlying241 Tryz.underlying3)<|Zw0 ?_
 refine Zb 2 U<|Znq<|Zbl<|Zsr<|Zm U<|Zk (c57 ..) [1] U U<|Zq ?_
 refine Zy U<|Zn<|Zcf U<|Zsr<|Zb 2 U<|Zv (ylk 1 U U U Tryz.underlying241 Tryz.underlying3 zv4)<|Zb 2 U ?_
 refine Zn<|Zcf U<|Zsr<|Zb 2 U<|Zv (ycv Tryz.underlying3 Tryz.underlying40 U (u32w U (by omega)))<|Zv (yrem U U (by decide) U)<|Zb 2 U ?_
 refine Zn<|Zcf U<|Zsr<|Za 4 [0] U U ?_
 refine Zol 0 img_op U<|fun h0 g o cap hcp=>Zv (yd 0 U U U)<|Zv (sl_of ⟨_,Tryz.underlying23⟩ U)<|Zv (ycv Tryz.underlying3 Tryz.underlying40 U (u32w U (by omega)))<|Zb 2 U<|Zn<|Zcf' U (dF (by omega))<|Zsk ?_
 refine Zxn<|Zxs<|Zm U<|Zv (ycv Tryz.underlying40 Tryz.underlying3 U (i64w U (by omega)))<|Zy U<|Zns<|Zm U ?_
 refine Za 7 [0,0] U U<|Zv (yadd (s:=4) U U U)<|Zb 2 U ?_
 refine Zv (yadd (s:=4) U U U) ?_
 refine Zv (yslf (i:=0) (j:=4) (m:=4) 1 Tryz.underlying23 U U U U (by omega) (by omega) (by omega) (n1:=4) (c1:=4) (by omega) (by omega)) ?_
 have hR4:=Rd.cut (i:=0) (j:=4) (own.rd (E:=u8E) (A:=some ⟨g,o,none⟩) (cap:=cap) (l:=l)) (by omega) (by omega)
 rw [show Value.slice (cutA (some ⟨g,o,none⟩) 4 0 1) 4 4 = .slice (cutA (some ⟨g,o,none⟩) 4 0 u8E.n) ((l.take 4).drop 0).length (4-0) by rw [hl4];rfl]
 refine Zkv (c77 (.hp (own u8E (some ⟨g,o,none⟩) cap l)) (cutA (some ⟨g,o,none⟩) 4 0 u8E.n) (4-0) b1 ((l.take 4).drop 0) hR4 hl4 hr4) [3,1] U U U U<|Zq<|Zns<|Zy U<|Znr ?_
 rw [hl4,List.drop_zero]
 refine Zfx [2,1] (img_fold (b:=b) (l:=l) h0) U<|Zre (.t U .n) hS [0,0] 1 U U U U
theorem c34 (b:Nat) (l:List Int) (hl:16≤l.length) (hl2:l.length≤1048576) (hr:∀ a∈l,0≤a∧a<256):Sp Tryz.prog 34 [pt b,.int .u32 0,.int .i64 4] [.hp (imgC b l)] fun K=>K (.returned (.tuple #[.int .u32 (rdR (l.take 4) 0 4),.int .i64 0])) [.hp (imgC b l)]:=by
 refine Zen Tryz.func34 U U U fun e X Φ hS=>Zsr<|Zb 2 U<|Zns<|Ze (eal z40) fun b8=>Zw<|Ze (es 0 U U U U U)<|Zw0<|Znl ?_
 refine Zxs<|Zb 3 U<|Zv (yfn U U) ?_
 refine Zk (c76 b b8 l hl hl2 hr) [1,0] U U<|Zq<|Zy U<|Zns<|Za 4 [1] U U ?_
 refine Znr<|Zre (.t U (.t U .n)) hS [0] 1 U U U U
theorem zz4 {zz:Array Value} (h:zz.size=4):∃ a b c d,zz=#[a,b,c,d]:=by
 rcases zz with ⟨l⟩
 match l,h with
 | [a,b,c,d],_=>exact ⟨a,b,c,d,rfl⟩
section
variable {N:Nat × List Deferred} {T:Tb} {e:World} {L:List Ck} {x x0 x1 x2 x3:Operand} {ty:TypeId} {pos:String} {af:Array Edge} {g:Option (Nat × Bool)} {dd:Option Nat}
theorem ebu4 {a b c d:Int} (h0:evT T x0=some (.int .u32 a)) (h1:evT T x1=some (.int .u32 b)) (h2:evT T x2=some (.int .u32 c)) (h3:evT T x3=some (.int .u32 d)):Ef Tryz.prog N T e L ⟨dd,.buildSlice 62 4 #[(0,x0),(1,x1),(2,x2),(3,x3)],ty,pos,af,g⟩ fun K=>∀ A,K (some (.slice A 4 4)) (.hp (own u32E A 4 [a,b,c,d])::L):=fun ac w fr hp G kk => .inl (by
 obtain ⟨i,z,hi,hz,hsz,hby,hzc⟩:=elU32.info
 have hs1:i.size=1:=hsz
 refine ⟨.slice (some ⟨w.heap.size,0,none⟩) 4 4,w.alloc (.cells #[.int .u32 a,.int .u32 b,.int .u32 c,.int .u32 d] 40),?_,kk _ _ (hp.ownNew ((Only.refl _ w).alloc _) ⟨by simp,by decide,.inr ⟨_,0,_,rfl,Go.heap_alloc_new w _,by simp [u32E,intE],by simp [u32E,intE]⟩⟩ inA_new)⟩
 have hfill:Instr.fill (fun q=>some (q*i.size,i.size)) ((Array.range (4*i.size)).map (z.cells[· % z.cells.size]!)) [(0,.int .u32 a),(1,.int .u32 b),(2,.int .u32 c),(3,.int .u32 d)]=some #[.int .u32 a,.int .u32 b,.int .u32 c,.int .u32 d]:=by
  rw [hs1]
  generalize hzz:(Array.range (4*1)).map (z.cells[· % z.cells.size]!)=zz
  obtain ⟨_,_,_,_,rfl⟩:=zz4 (zz:=zz) (by rw [← hzz];simp)
  rfl
 have:=run_buildSlice (P:=Tryz.prog) w 62 40 4 #[(0,.int .u32 a),(1,.int .u32 b),(2,.int .u32 c),(3,.int .u32 d)] #[.int .u32 a,.int .u32 b,.int .u32 c,.int .u32 d] i z elU32.ty hi hz (by rw [hs1];omega) (by rw [hs1];omega) hfill
 simp [execOp,fr.evT h0,fr.evT h1,fr.evT h2,fr.evT h3,this])
theorem elSl:ElemI slE 22 24:=⟨Tryz.underlying22,by
 obtain ⟨i0,hi,hz0,hz1,hz2⟩:=info_parts (show (Tryz.prog.info? 62).map (fun i=>(i.zero,i.size,i.bytes))=some (some (.slice none 0 0),1,24) by kernel_rfl)
 exact ⟨i0,_,hi,hz0,hz1,hz2,rfl⟩⟩
theorem ebsl {k:Option Addr × Nat × List Int} (h:evT T x=some (.slice k.1 k.2.2.length k.2.1)):Ef Tryz.prog N T e L ⟨dd,.buildSlice 22 1 #[(0,x)],ty,pos,af,g⟩ fun K=>∀ A,K (some (.slice A 1 1)) (.hp (own slE A 1 [k])::L):=fun a w fr hp G kk => .inl (by
 obtain ⟨i,z,hi,hz,hsz,hby,hzc⟩:=elSl.info
 have hs1:i.size=1:=hsz
 refine ⟨.slice (some ⟨w.heap.size,0,none⟩) 1 1,w.alloc (.cells #[.slice k.1 k.2.2.length k.2.1] 62),?_,kk _ _ (hp.ownNew ((Only.refl _ w).alloc _) ⟨by simp,by decide,.inr ⟨_,0,_,rfl,Go.heap_alloc_new w _,by simp [slE],by simp [slE]⟩⟩ inA_new)⟩
 have hfill:Instr.fill (fun q=>some (q*i.size,i.size)) ((Array.range (1*i.size)).map (z.cells[· % z.cells.size]!)) [(0,.slice k.1 k.2.2.length k.2.1)]=some #[.slice k.1 k.2.2.length k.2.1]:=by
  rw [hs1]
  generalize hzz:(Array.range (1*1)).map (z.cells[· % z.cells.size]!)=zz
  have hz1:zz.size=1:=by rw [← hzz];simp
  rcases zz with ⟨_ | ⟨v0,_ | ⟨v1,l⟩⟩⟩
  ·exact absurd hz1 (by simp)
  ·rfl
  ·exact absurd hz1 (by simp)
 have:=run_buildSlice (P:=Tryz.prog) w 22 62 1 #[(0,.slice k.1 k.2.2.length k.2.1)] #[.slice k.1 k.2.2.length k.2.1] i z elSl.ty hi hz (by rw [hs1];omega) (by rw [hs1];omega) hfill
 simp [execOp,fr.evT h,this])
theorem elCho:ElemI choE 26 24:=⟨Tryz.underlying26,by
 obtain ⟨i0,hi,hz0,hz1,hz2⟩:=info_parts (show (Tryz.prog.info? 71).map (fun i=>(i.zero,i.size,i.bytes))=some (some (.agg (choE.arr cho0)),3,24) by kernel_rfl)
 exact ⟨i0,_,hi,hz0,hz1,hz2,by rw [show (Value.agg (choE.arr cho0)).cells=choE.arr cho0 from rfl,choE.size]⟩⟩
def pl7:List (Nat × Nat):=[(0,3),(3,3),(6,3),(9,3),(12,3),(15,3),(18,3)]
theorem pl7_at {i:Nat} {p:Nat × Nat} (h:nth pl7 i=some p):some (i*3,3)=some p:=by
 match i,h with
 | 0,h=>exact h
 | 1,h=>exact h
 | 2,h=>exact h
 | 3,h=>exact h
 | 4,h=>exact h
 | 5,h=>exact h
 | 6,h=>exact h
theorem zz21 {zz:Array Value} (h:zz.size=21):∃ a0 a1 a2 a3 a4 a5 a6 a7 a8 a9 a10 a11 a12 a13 a14 a15 a16 a17 a18 a19 a20,zz=#[a0,a1,a2,a3,a4,a5,a6,a7,a8,a9,a10,a11,a12,a13,a14,a15,a16,a17,a18,a19,a20]:=by
 rcases zz with ⟨l⟩
 match l,h with
 | [a0,a1,a2,a3,a4,a5,a6,a7,a8,a9,a10,a11,a12,a13,a14,a15,a16,a17,a18,a19,a20],_=>exact ⟨a0,a1,a2,a3,a4,a5,a6,a7,a8,a9,a10,a11,a12,a13,a14,a15,a16,a17,a18,a19,a20,rfl⟩
set_option maxRecDepth 20000 in
theorem ebc7 {x4 x5 x6:Operand} {c0 c1 c2 c3 c4 c5 c6:Cho} (h0:evT T x0=some (.agg (choE.arr c0))) (h1:evT T x1=some (.agg (choE.arr c1))) (h2:evT T x2=some (.agg (choE.arr c2))) (h3:evT T x3=some (.agg (choE.arr c3))) (h4:evT T x4=some (.agg (choE.arr c4))) (h5:evT T x5=some (.agg (choE.arr c5))) (h6:evT T x6=some (.agg (choE.arr c6))):Ef Tryz.prog N T e L ⟨dd,.buildSlice 26 7 #[(0,x0),(1,x1),(2,x2),(3,x3),(4,x4),(5,x5),(6,x6)],ty,pos,af,g⟩ fun K=>∀ A,K (some (.slice A 7 7)) (.hp (own choE A 7 [c0,c1,c2,c3,c4,c5,c6])::L):=fun ac w fr hp G kk => .inl (by
 obtain ⟨i,z,hi,hz,hsz,hby,hzc⟩:=elCho.info
 have hs1:i.size=3:=hsz
 refine ⟨.slice (some ⟨w.heap.size,0,none⟩) 7 7,w.alloc (.cells #[.int .i64 c0.kind,.int .i64 c0.hart,.int .i64 c0.pick,.int .i64 c1.kind,.int .i64 c1.hart,.int .i64 c1.pick,.int .i64 c2.kind,.int .i64 c2.hart,.int .i64 c2.pick,.int .i64 c3.kind,.int .i64 c3.hart,.int .i64 c3.pick,.int .i64 c4.kind,.int .i64 c4.hart,.int .i64 c4.pick,.int .i64 c5.kind,.int .i64 c5.hart,.int .i64 c5.pick,.int .i64 c6.kind,.int .i64 c6.hart,.int .i64 c6.pick] 71),?_,kk _ _ (hp.ownNew ((Only.refl _ w).alloc _) ⟨by simp,by decide,.inr ⟨_,0,_,rfl,Go.heap_alloc_new w _,by simp [choE],by simp [choE,Cho.cells]⟩⟩ inA_new)⟩
 have hfill:Instr.fill (fun q=>some (q*i.size,i.size)) ((Array.range (7*i.size)).map (z.cells[· % z.cells.size]!)) [(0,.agg (choE.arr c0)),(1,.agg (choE.arr c1)),(2,.agg (choE.arr c2)),(3,.agg (choE.arr c3)),(4,.agg (choE.arr c4)),(5,.agg (choE.arr c5)),(6,.agg (choE.arr c6))]=some #[.int .i64 c0.kind,.int .i64 c0.hart,.int .i64 c0.pick,.int .i64 c1.kind,.int .i64 c1.hart,.int .i64 c1.pick,.int .i64 c2.kind,.int .i64 c2.hart,.int .i64 c2.pick,.int .i64 c3.kind,.int .i64 c3.hart,.int .i64 c3.pick,.int .i64 c4.kind,.int .i64 c4.hart,.int .i64 c4.pick,.int .i64 c5.kind,.int .i64 c5.hart,.int .i64 c5.pick,.int .i64 c6.kind,.int .i64 c6.hart,.int .i64 c6.pick]:=by
  rw [hs1]
  generalize hzz:(Array.range (7*3)).map (z.cells[· % z.cells.size]!)=zz
  obtain ⟨_,_,_,_,_,_,_,_,_,_,_,_,_,_,_,_,_,_,_,_,_,rfl⟩:=zz21 (zz:=zz) (by rw [← hzz];simp)
  exact fill_bl pl7 _ (fun i p hp=>pl7_at hp) _ _ (by repeat' first | exact trivial | exact rfl | constructor)
 have:=run_buildSlice (P:=Tryz.prog) w 26 71 7 #[(0,.agg (choE.arr c0)),(1,.agg (choE.arr c1)),(2,.agg (choE.arr c2)),(3,.agg (choE.arr c3)),(4,.agg (choE.arr c4)),(5,.agg (choE.arr c5)),(6,.agg (choE.arr c6))] #[.int .i64 c0.kind,.int .i64 c0.hart,.int .i64 c0.pick,.int .i64 c1.kind,.int .i64 c1.hart,.int .i64 c1.pick,.int .i64 c2.kind,.int .i64 c2.hart,.int .i64 c2.pick,.int .i64 c3.kind,.int .i64 c3.hart,.int .i64 c3.pick,.int .i64 c4.kind,.int .i64 c4.hart,.int .i64 c4.pick,.int .i64 c5.kind,.int .i64 c5.hart,.int .i64 c5.pick,.int .i64 c6.kind,.int .i64 c6.hart,.int .i64 c6.pick] i z elCho.ty hi hz (by rw [hs1];omega) (by rw [hs1];omega) hfill
 simp [execOp,fr.evT h0,fr.evT h1,fr.evT h2,fr.evT h3,fr.evT h4,fr.evT h5,fr.evT h6,this])
end
abbrev code1:List Int:=[5243027,1056803,8451,115]
def world1 (A A2 B:Option Addr):Wld:=⟨A,1,[(A2,4,code1)],B,16,List.replicate 16 0,1,1⟩
def world1P (A A2 B:Option Addr):HP:=Sep [.hp (own slE A 1 [(A2,4,code1)]),.hp (own u32E A2 4 code1),.hp (own u8E B 16 (List.replicate 16 0))]
theorem sep_rd {α:Type} [DecidableEq α] {E:Enc Tryz.prog α} {A:Option Addr} {cap:Nat} {l:List α} {L:List Ck} {i:Nat} (h:nth L i=some (.hp (own E A cap l))):Rd E (.hp (Sep L)) A cap l:=fun g hc w hl=>by
 obtain ⟨h1,e1,ho⟩:=Sep.nth h hc
 exact (own.at_ ho (e1.tr hl)).view
theorem world1_in (A A2 B:Option Addr) (hA2:A2≠none):(world1 A A2 B).In (.hp (world1P A A2 B)) where
 cds:=⟨sep_rd (i:=0) rfl,fun x hx=>by
  rw [show (world1 A A2 B).l=[(A2,4,code1)] from rfl,List.mem_singleton] at hx
  subst hx
  exact fun _=>sep_rd (i:=1) rfl,fun x hx h0=>by
  rw [show (world1 A A2 B).l=[(A2,4,code1)] from rfl,List.mem_singleton] at hx
  subst hx
  exact absurd h0 (by show ¬ (4=0);omega),fun x hx hn=>by
  rw [show (world1 A A2 B).l=[(A2,4,code1)] from rfl,List.mem_singleton] at hx
  subst hx
  exact absurd hn hA2,fun x hx=>by
  rw [show (world1 A A2 B).l=[(A2,4,code1)] from rfl,List.mem_singleton] at hx
  subst hx
  intro a ha
  simp only [code1,List.mem_cons,List.not_mem_nil,or_false] at ha
  rcases ha with rfl | rfl | rfl | rfl <;> (unfold U32;omega)⟩
 b:=sep_rd (i:=2) rfl
 r:=fun a ha=>by
  rw [List.eq_of_mem_replicate ha]
  decide
theorem world1_ok (A A2 B:Option Addr):(world1 A A2 B).ok=true:=by
 show (!szF (((List.replicate 16 (0:Int)).length:Nat):Int) && newOk [code1] 1 1)=true
 decide +kernel
def m1:MD:=newM [code1] (List.replicate 16 0) 1 1
theorem c33:Sp Tryz.prog 33 [] [] fun K=>∀ b,K (.returned (pt b)) [.hp (machC 0 b m1)]:=by
 refine Zen Tryz.func33 U U U fun e X Φ hS=>Zsr<|Zy U<|Zns ?_
 refine Ze (ebu4 U U U U)<|fun A2=>Zw ?_
 refine Zol 0 own_len U<|fun hA2 _ _=>?_
 have hA2:A2≠none:=fun e=>by have:=(hA2 e).1;cases this
 refine Ze (ebsl (k:=(A2,4,code1)) U)<|fun A=>Zw ?_
 refine Ze (emks (n:=16) elU8 U U (by omega) (by decide))<|fun B=>Zw<|Zv (yb l25 U) ?_
 refine Zfl [1,1,0] (show ∀ h,Sep [.hp (own slE A 1 [(A2,4,code1)]),.hp (own u32E A2 4 code1),.hp (own u8E B 16 (List.replicate 16 0))] h→world1P A A2 B h from fun _ hs=>hs) U ?_
 refine Zk (c7 (.hp (world1P A A2 B)) (world1 A A2 B) (world1_in A A2 B hA2)) [0] U U<|⟨?_,?_⟩
 refine fun a=>fun b=>fun bi=>Zq <| Zv (ym rfl) <| Zv (yx rfl rfl) <| Zv (yx rfl rfl) <| Zv (ya rfl) <| Zv (ya rfl) <| Znl ?_
 refine Zxs<|Zb 2 U<|Znr<|Zre (.t U .n) (hS _) [0] 2 U U U U
 refine fun a=>Zq <| Zv (ym rfl) <| Zv (yx rfl rfl) <| Zv (yx rfl rfl) <| Zv (ya rfl) <| Zv (ya rfl) <| Znl <| Znx <| Zsr ?_
 refine Zb 2 U<|Znr ?_
 ·rw [world1_ok] at a
  cases a
def l7:List Cho:=[⟨1,0,0⟩,⟨1,0,0⟩,⟨1,0,0⟩,⟨2,0,0⟩,⟨3,0,0⟩,⟨3,0,0⟩,⟨2,0,0⟩]
def r1:MD × List Did:=runM m1 l7
def alive1:Bool:=decide (r1.2.length=4) && decide ((r1.2.getD 2 did0).com.value=5) && decide ((r1.2.getD 3 did0).kind=2) && decide (rdR ((memF r1.1).take 4) 0 4=5) && decide ((memF r1.1).length=16) && (memF r1.1).all (fun a=>decide (0≤a) && decide (a<256))
theorem alive1_yes:alive1=true:=by decide +kernel
theorem l7_in:∀ x∈l7,ChoIn x:=fun x hx=>by
 simp only [l7,List.mem_cons,List.not_mem_nil,or_false] at hx
 rcases hx with rfl | rfl | rfl | rfl | rfl | rfl | rfl <;> exact ⟨by decide,by decide⟩
theorem l7_right:∀ x∈l7,rightC x=true:=by decide
theorem m1_in:m1.In∧m1.C.length≤4:=newM_in (by decide +kernel)
theorem c9:Sp Tryz.prog 9 [] [spC] fun K=>K (.returned (.bool true)) [spC]:=by
 have hal:=alive1_yes
 unfold alive1 at hal
 simp only [Bool.and_eq_true,decide_eq_true_eq,List.all_eq_true] at hal
 obtain ⟨⟨⟨⟨⟨e1,e2⟩,e3⟩,e4⟩,e5⟩,e6⟩:=hal
 obtain ⟨hin,h4⟩:=m1_in
 refine Zen Tryz.func9 U U U fun e X Φ hS=>Zsr<|Zy U<|Zns<|Zk (c33 ..) [] U U<|fun b=>Zq<|Zy U ?_
 refine Zns<|Zm U<|Zv (yb l71 U)<|Zv (yb l71 U)<|Zv (yb l71 U)<|Zv (yb l71 U)<|Zv (yb l71 U)<|Zv (yb l71 U) ?_
 refine Zv (yb l71 U) ?_
 refine Ze (ebc7 (c0:=⟨1,0,0⟩) (c1:=⟨1,0,0⟩) (c2:=⟨1,0,0⟩) (c3:=⟨2,0,0⟩) (c4:=⟨3,0,0⟩) (c5:=⟨3,0,0⟩) (c6:=⟨2,0,0⟩) U U U U U U U)<|fun A=>Zw ?_
 rw [show [(⟨1,0,0⟩:Cho),⟨1,0,0⟩,⟨1,0,0⟩,⟨2,0,0⟩,⟨3,0,0⟩,⟨3,0,0⟩,⟨2,0,0⟩]=l7 from rfl,show Value.slice A 7 7 = .slice A l7.length 7 from rfl]
 refine Zk (c10 0 b m1 (.hp (own choE A 7 l7)) A 7 l7 own.rd (by decide) l7_in hin h4) [1,1,0] U U<|⟨?_,?_⟩
 refine fun a=>fun A'=>fun cap'=>Zq <| Zv (ym rfl) <| Zv (yx rfl rfl) <| Zv (yx rfl rfl) <| Zv (ya rfl) <| Zv (ya rfl) <| Znl ?_
 refine Zxs<|Zm U ?_
 rotate_left
 refine fun a=>Zq <| Zv (ym rfl) <| Zv (yx rfl rfl) <| Zv (yx rfl rfl) <| Zv (ya rfl) <| Zv (ya rfl) <| Znl <| Znx <| Zsr ?_
 refine Zm U ?_
 rotate_left
 ·rw [show runM m1 l7=r1 from rfl]
  generalize r1=r at e1 e2 e3 e4 e5 e6 ⊢
  obtain ⟨rm,ds⟩:=r
  dsimp only at e1 e2 e3 e4 e5 e6 ⊢
  have h16:16≤(memF rm).length:=by omega
  have hlm:(memF rm).length≤1048576:=by omega
  have g2:=gE (l:=ds) (k:=2) (by omega)
  have g3:=gE (l:=ds) (k:=3) (by omega)
  have f2:ds[2].com.value=5:=by rw [List.getD_eq_getElem?_getD,g2] at e2;exact e2
  have f3:ds[3].kind=2:=by rw [List.getD_eq_getElem?_getD,g3] at e3;exact e3
  refine Zk (c20 (0+l7.length) b rm (by decide)) [1] U U<|fun b'=>Zq ?_
  refine Zk (c34 b' (memF rm) h16 hlm e6) [0] U U<|Zq<|Zb 5 U<|Zns ?_
  refine Zb 7 U<|Zg U U ?_
  refine Zm U<|Zg U U<|Zv (sl_of ⟨_,Tryz.underlying33⟩ U)<|Zb 3 U<|Zg' U U (dT (by omega))<|Zm U<|Zg' U U (dT (by omega)) ?_
  refine Zv (yea (j:=2) 2 own.rd U U U (by first | assumption | omega) U Tryz.underlying33 U)<|Zg' U U (dT (by omega))<|Zv (yf 2 U)<|Zg' U U (dT (by omega))<|Zv (yf 12 U)<|Zg' U U (dT (by omega)) ?_
  rw [e4]
  refine Zv (yec (m:=14) 2 own.rd U g2 U U (by omega))<|Zg' U U (dT (by omega))<|Zv (yeq U U)<|Zv (ypt' U (dT (by omega)) U)<|Zm U<|Zg' U U (dT f2)<|Zm U<|Zg' U U (dT f2)<|Zv (yea (j:=3) 2 own.rd U U U (by first | assumption | omega) U Tryz.underlying33 U)<|Zg' U U (dT f2) ?_
  refine Zv (yf 0 U)<|Zg' U U (dT f2)<|Zv (yec (m:=0) 2 own.rd U (by assumption) U U U)<|Zg' U U (dT f2)<|Zv (yeq U U)<|Zv (ypt' U (dT f2) U)<|Zm U<|Zg' U U (dT f3)<|Zm U<|Zg' U U (dT f3) ?_
  refine Zv (yeq U U)<|Zv (ypt' U (dT f3) U)<|Zy U<|Znr<|Zre (.t U .n) hS [3] 4 U U U U
 ·exact absurd l7_right a
structure Arg (p q:HP):Prop where
 op:∀ h,p h→Sep [spC,.hp q] h
 fo:∀ h,Sep [spC,.hp q] h→p h
theorem Arg.un {p q:HP} (a:Arg p q) {X:List Ck} {h:Hl} (hs:Sep (.hp p::X) h):Sep (spC :: .hp q::X) h:=(hs.hd (q := .hp (Sep [spC,.hp q])) a.op).flat
theorem Arg.re {p q:HP} (a:Arg p q) {X:List Ck} {h:Hl} (hs:Sep (spC :: .hp q::X) h):Sep (.hp p::X) h:=(Sep.unflat (L:=[spC,.hp q]) hs).hd (q := .hp p) a.fo
theorem c9p {p q:HP} (a:Arg p q):Sp Tryz.prog 9 [] [.hp p] fun K=>K (.returned (.bool true)) [.hp p]:=⟨fun e X w Φ hp hS=>c9.run e (.hp q::X) w Φ (hp.imp fun _ hs=>a.un hs) fun w' hw=>hS w' (hw.imp fun _ hs=>a.re hs)⟩
theorem ret_shaped {a:Assume} {C:Checked} {os:Os} {f:FuncId} {fn:Func} {s:ChangeSpec} {conds:List PathCond} {apart fresh handsOn again:Bool} {X:World→Array Value→Prop} {H:Type} {enc:TypeId × Value→H}
  (hX:∀ (w w':World) (args:Array Value),w.heap=w'.heap→X w args→X w' args)
  (own:ownKnob C.prog.godebug=none) (started:os.Started) (noInit:C.prog.inits.idxOf? f=none) (hfn:C.prog.funcs[f]? = some fn)
  (witness:∃ (w:World) (tape:Tape) (i:Input),w.os=os∧(w.forCall tape i).Shaped C.prog∧i.vars=[]∧Input.okWide C.prog (w.forCall tape i) .any w.heap.size f i ∧
   ((s.pre enc C.prog fn conds apart (w.forCall tape i).memory i.args∧X (w.forCall tape i).memory i.args)∧sizedMet enc C.prog fn (OpenSpec.ofChange s) apart (w.forCall tape i).memory i.args)∧a.holds C.prog (lone (Frame.enter C.prog f i.args .normal) [] (w.forCall tape i)))
  (contract:∀ (W:World) (base:Nat) (args:Array Value) (ds gs:List (DataW H)) (before:List MemPlace),W.ShapedOpen C.prog →
   (∀ (j:Nat) t v,fn.params[j]? = some t→args[j]? = some v→Value.okWide C.prog W .any base t v) →
   DataW.Whole enc C.prog fn.params.toList s.vars apart W args.toList ds gs before →
   conds.all (PathCond.test C.prog ⟨fn.params.toList,ds,s.plain.varTypes C.prog,gs⟩)=true→X W args →
   Calls C.prog f args W fun e W'=>∃ v,e = .returned v∧s.post enc C.prog fn apart fresh handsOn again W args v W') :
  ReturnsInHanded a C os f .any (fun w args=>(s.pre enc C.prog fn conds apart w args∧X w args)∧sizedMet enc C.prog fn (OpenSpec.ofChange s) apart w args) (s.post enc C.prog fn apart fresh handsOn again):=by
 refine returnsInHanded_of_calls own started noInit witness ?_
 intro w tape i _ hsh _ hok hpre _
 obtain ⟨_,_,_,fn',hfn',_,_,_,_,hval⟩:=hok
 have e:fn'=fn:=Option.some.inj (hfn'.symm.trans hfn)
 subst e
 obtain ⟨⟨⟨ds,gs,before,hw,hc⟩,hx⟩,_⟩:=hpre
 have hw':=DataW.Whole.of_heap (w':=w.forCall tape i) (by rfl) hw
 refine (contract (w.forCall tape i) w.heap.size i.args ds gs before hsh hval hw' hc (hX _ _ _ (by rfl) hx)).mono fun e W' ⟨v,he,hp⟩=>?_
 subst he
 exact ChangeSpec.post_blind hp
theorem sp_block {W : World} (hs : W.ShapedOpen Tryz.prog) (hv : W.var? Tryz.prog "strings.asciiSpace" = some spL.toArray) : W.heap[0]? = some (.cells spL.toArray 405 (0, 0)) := by
 have h0:(((begin Tryz.prog (fun _ _=>0) default).world.heap[0]?).bind Obj.row?).map (·.2)=some 405:=by kernel_rfl
 obtain ⟨⟨zero,t⟩,h1,h2⟩:=Option.map_eq_some_iff.1 h0
 have h2:t=405:=h2
 subst h2
 obtain ⟨cs,h3,_⟩:=hs.1 0 zero 405 (Nat.le_of_ble_eq_true (by kernel_rfl)) h1
 unfold World.var? at hv
 rw [show Tryz.prog.globalNamed "strings.asciiSpace" = some 0 by kernel_rfl] at hv
 simp only [Option.bind_some,h3,Option.some.injEq] at hv
 rw [h3,hv]
def spZ:List Int:=(List.range 256).map fun k=>if k=9∨k=10∨k=11∨k=12∨k=13∨k=32 then 1 else 0
theorem sp_data:(Rows.laid_strings_asciiSpace:DataW Unit)=Lib.tabData .u8 spZ:=by kernel_rfl
theorem sp_zs:spZ.map (fun z=>Value.int .u8 z)=spL:=by
 unfold spZ spL
 rw [List.map_map]
 rfl
theorem sp_laid {W : World} (h : laidMetH Tryz.prog Rows.topAgainRow.laid W) : W.var? Tryz.prog "strings.asciiSpace" = some spL.toArray := by
 rw [MakeChecks.laidMetH_plain _ _ _ (by kernel_rfl)] at h
 have h2 : laidMet Tryz.prog [("strings.asciiSpace", Lib.tabData .u8 spZ)] W := by
  rw [← sp_data]
  exact h.tail.tail.tail.tail
 have h3:=Lib.tabIs_of_head (P:=Tryz.prog) (W:=W) (g:=0) (t:=405) (e:=5) (n:=256) (by kernel_rfl) (by kernel_rfl) Tryz.underlying405 Tryz.underlying5 (by kernel_rfl) (by kernel_rfl) h2
 unfold Lib.TabIs at h3
 rw [h3,sp_zs]
def hpP (W:World):HP:=fun h=>Le (hlOf W) h
def hpQ (W:World):HP:=fun h=>∀ k o,k≠0→W.heap[k]? = some o→h k=some o
theorem arg_W {W:World} (h0:W.heap[0]? = some (.cells spL.toArray 405 (0,0))):Arg (hpP W) (hpQ W) where
 op h hp:=by
  refine ⟨fun k=>if k=0 then h 0 else none,fun k=>if k=0 then none else h k,fun k o e=>?_,fun k o e=>?_,fun k=>?_,?_,fun k=>if k=0 then none else h k,fun _=>none,Le.refl _,(fun _ _ e=>by cases e),fun _ => .inr rfl,fun k o hk hW=>?_,trivial⟩
  ·by_cases hk:k=0
   ·subst hk;simpa using e
   ·simp [hk] at e
  ·by_cases hk:k=0
   ·simp [hk] at e
   ·simpa [hk] using e
  ·by_cases hk:k=0
   ·exact .inr (by simp [hk])
   ·exact .inl (by simp [hk])
  ·show (if 0=0 then h 0 else none)=_
   rw [if_pos rfl]
   exact hp 0 _ h0
  ·show (if k=0 then none else h k)=_
   rw [if_neg hk]
   exact hp k o hW
 fo h hs:=by
  obtain ⟨h1,h2,l1,l2,_,hb,h3,h4,l3,_,_,hq,_⟩:=hs
  intro k o hk
  by_cases h:k=0
  ·subst h
   have e:o = .cells spL.toArray 405 (0,0):=Option.some.inj ((show W.heap[0]? = some o from hk).symm.trans h0)
   subst e
   exact l1 _ _ hb
  ·exact l2 _ _ (l3 _ _ (hq k o h hk))
theorem heap_le {W w:World} {k:Nat} {o:Obj} (hl:Le (hlOf W) (hlOf w)) (h:W.heap[k]? = some o):w.heap[k]? = some o:=hl k o h
theorem cell_le {W w:World} {x:Addr} {v:Value} (hl:Le (hlOf W) (hlOf w)) (h:W.cell? x=some v):w.cell? x=some v:=by
 unfold World.cell? at h ⊢
 cases hk:W.heap[x.block]? with
 | none=>simp [hk] at h
 | some o=>
  rw [hk] at h
  rw [heap_le hl hk]
  exact h
theorem size_le {W w:World} (hl:Le (hlOf W) (hlOf w)):W.heap.size≤w.heap.size:=by
 rcases Nat.eq_zero_or_pos W.heap.size with h | h
 ·omega
 ·have:=heap_le (k:=W.heap.size-1) hl (Array.getElem?_eq_getElem (by omega))
  have:=(Array.getElem?_eq_some_iff.1 this).1
  omega
theorem view_W {α:Type} [DecidableEq α] {E:Enc Tryz.prog α} {W:World} {A:Option Addr} {cap:Nat} {l:List α} (h:View E W A cap l):Rd E (.hp (hpP W)) A cap l:=fun h1 hd w hl=>by
 have hle:Le (hlOf W) (hlOf w):=Le.tr hd hl
 obtain ⟨h2,h3,h4⟩:=h
 refine ⟨h2,h3,h4.imp id fun ⟨g,o,hA,hg,hr⟩=>⟨g,o,hA,Nat.lt_of_lt_of_le hg (size_le hle),fun j v hj=>cell_le hle (hr j v hj)⟩⟩
theorem below_W {W w:World} (h:Hp W [.hp (hpP W)] w):Go.RowKit.Below W.heap.size W w:=by
 obtain ⟨g,hg,hp⟩:=h.get (i:=0) rfl
 have hle:Le (hlOf W) (hlOf w):=Le.tr hp hg
 exact ⟨h.os,h.tape,h.output,size_le hle,fun k hk=>by rw [heap_le hle (Array.getElem?_eq_getElem hk),Array.getElem?_eq_getElem hk]⟩
theorem hp_W (W:World):Hp W [.hp (hpP W)] W:=⟨rfl,rfl,rfl,sep_hp1 (Le.refl _)⟩
end Go.Proofs.YtpfijldkkfiooaaGreatDoor
namespace Go.Proofs.YtpfijldkkfiooaaGreatDoor
open Go.RowKit Go.ChangeShapes Go.WideShapes Go.ChangeAt Go.Deep
section
variable {H:Type} {enc:TypeId × Value→H} {P:Program} {w:World} {base:Nat} {spare:Nat→Bool} {held:Bool} {fuel:Nat} {cs:List Value} {x:DataW H × List MemPlace}
theorem has_addr {r:Reach} {a:Addr} {e n:Nat} (h:w.has P r base a e n):∃ g o,a=⟨g,o,none⟩∧g<w.heap.size:=by
 obtain ⟨_,h1,row,cells,h2,_⟩:=h
 obtain ⟨g,o,s⟩:=a
 subst h1
 refine ⟨g,o,rfl,?_⟩
 unfold World.shape? at h2
 rcases Nat.lt_or_ge g w.heap.size with h | h
 ·exact h
 ·have:w.heap[g]? = none:=Array.getElem?_eq_none h
  simp [this] at h2
theorem add_none (g o i:Nat):(⟨g,o,none⟩:Addr).add i=⟨g,o+i,none⟩:=by
 unfold Addr.add
 by_cases h:i=0 <;> simp [h]
theorem open_recs {α:Type} [DecidableEq α] {E:Enc P α} {OK:α→Prop} {t:TypeId} {r:Reach} {b0:Nat} {v:Value} {d:DataW H} {p:List MemPlace} (ht:P.underlying t=some (.slice E.T)) (hC:P.cellsOf E.T=E.n)
  (hel:∀ fuel cs x,DataW.trod enc P w base (fun _=>true) held fuel E.T cs=some x→∃ m,OK m∧cs=E.cells m) (hv:Value.okWide P w r b0 t v) (h:DataW.Trod enc P w base (fun _=>true) held t v d p) :
  ∃ A cap l,v = .slice A l.length cap∧View E w A cap l∧∀ m∈l,OK m:=by
 obtain ⟨a0,len,cap,rfl⟩:=okWide_slice ht hv
 obtain ⟨fuel,hf⟩:=h
 rcases open_slice ht hf with ⟨hcs,_⟩ | ⟨a,l,c,m,n,D,Pl,hcs,_,hl,hm,hz,_,hcell⟩
 ·simp [Value.cells] at hcs
  obtain ⟨rfl,rfl,rfl⟩:=hcs
  exact ⟨none,0,[],rfl,View.nil,by simp⟩
 ·simp [Value.cells] at hcs
  obtain ⟨rfl,rfl,rfl⟩:=hcs
  rw [if_pos rfl] at hz
  subst hz
  have hh:w.has P r b0 a E.T m:=by
   unfold Value.okWide at hv
   rw [ht] at hv
   simp only [Cell.okWide,ht,Cell.ok] at hv
   exact hv.2.2
  obtain ⟨g,o,rfl,hg⟩:=has_addr hh
  rw [hC] at hcell
  have hb:∀ i:_root_.Fin len,∃ q:α,OK q∧w.rangeAt g (o+i.1*E.n) (E.cells q):=by
   intro i
   obtain ⟨cs',h1,h2⟩:=hcell i.1 (by omega)
   obtain ⟨q,hq,rfl⟩:=hel _ _ _ h2
   obtain ⟨_,hcl,hat⟩:=World.cells?_some h1
   refine ⟨q,hq,fun j v hj=>?_⟩
   have hjl:=(List.getElem?_eq_some_iff.1 hj).1
   have:=hat j (by omega)
   rw [add_none,add_none] at this
   rw [this,hj]
  obtain ⟨f,hf⟩:∃ f:_root_.Fin len→α,∀ i,OK (f i)∧w.rangeAt g (o+i.1*E.n) (E.cells (f i)):=⟨fun i=>(hb i).choose,fun i=>(hb i).choose_spec⟩
  refine ⟨some ⟨g,o,none⟩,m,List.ofFn f,by simp,⟨by simp;omega,hm,.inr ⟨g,o,rfl,hg,fun j v hj=>?_⟩⟩,?_⟩
  ·have hjl:=(List.getElem?_eq_some_iff.1 hj).1
   rw [flat_len,List.length_ofFn] at hjl
   have hn:=E.pos
   have hq:j/E.n<len:=(Nat.div_lt_iff_lt_mul hn).2 hjl
   have hr:j%E.n<E.n:=Nat.mod_lt _ hn
   have hj2:j/E.n*E.n+j%E.n=j:=by rw [Nat.mul_comm];exact Nat.div_add_mod j E.n
   have e1:=flat_drop (E:=E) (List.ofFn f) (j/E.n) (by simpa using hq)
   have e2:(E.cells (f ⟨j/E.n,hq⟩))[j%E.n]? = some v:=by
    rw [List.getElem_ofFn] at e1
    rw [← e1,List.getElem?_take,if_pos hr,List.getElem?_drop,hj2]
    exact hj
   have:=(hf ⟨j/E.n,hq⟩).2 (j%E.n) v e2
   rw [← this]
   show _=w.cell? ⟨g,o+j/E.n*E.n+j%E.n,none⟩
   rw [Nat.add_assoc,hj2]
  ·intro q hq
   obtain ⟨i,rfl⟩:=List.mem_ofFn.1 hq
   exact (hf i).1
end
end Go.Proofs.YtpfijldkkfiooaaGreatDoor
namespace Go.Proofs.YtpfijldkkfiooaaGreatDoor
open Go Go.RowKit Go.ChangeShapes Go.WideShapes Go.ChangeAt Go.Deep
set_option maxRecDepth 20000
structure InOk (w:World) (m:Option Addr × Nat × List Int):Prop where
 v:m.2.1≠0→View u32E w m.1 m.2.1 m.2.2
 z:m.2.1=0→m.2.2=[]
 n:m.1=none→m.2.2=[]∧m.2.1=0
 u:∀ a∈m.2.2,U32 a
theorem addr_of {w:World} {a:Addr} {v:Value} (h:w.cell? a=some v):∃ g o,a=⟨g,o,none⟩∧g<w.heap.size:=by
 obtain ⟨g,o,s⟩:=a
 unfold World.cell? at h
 cases hk:w.heap[g]? with
 | none=>simp [hk] at h
 | some ob=>
  refine ⟨g,o,?_,(Array.getElem?_eq_some_iff.1 hk).1⟩
  cases s with
  | none=>rfl
  | some s=>cases ob <;> simp [hk] at h
theorem flat_ints (l:List Int):l.flatMap u32E.cells=l.map (Value.int .u32):=by
 induction l with
 | nil=>rfl
 | cons a r ih=>exact congrArg (List.cons _) ih
theorem wf_u32 {z:Int} (h:(Lit.int .u32 z).wf=true):U32 z:=by
 simp [Lit.wf] at h
 unfold U32
 simp [IntKind.min,IntKind.max,IntKind.bits,IntKind.signed] at h
 omega
theorem open_in {H:Type} {enc:TypeId × Value→H} {w:World} {base:Nat} {held:Bool} {fuel:Nat} {cs:List Value} {x:DataW H × List MemPlace} (h:DataW.trod enc Tryz.prog w base (fun _=>true) held fuel 62 cs=some x):∃ m,InOk w m∧cs=slE.cells m:=by
 rcases open_slice Tryz.underlying62 h with ⟨hcs,_⟩ | ⟨a,len,cap,m,n,D,Pl,hcs,_,hl,hm,hz,_,hcell⟩
 ·exact ⟨(none,0,[]),⟨fun h=>absurd rfl h,fun _=>rfl,fun _=>⟨rfl,rfl⟩,fun a ha=>by cases ha⟩,hcs⟩
 ·rw [if_pos rfl] at hz
  subst hz
  by_cases hc:m=0
  ·subst hc
   obtain rfl:len=0:=by omega
   exact ⟨(some a,0,[]),⟨fun h=>absurd rfl h,fun _=>rfl,fun h=>(by cases h),fun a ha=>(by cases ha)⟩,hcs⟩
  ·have hC:Tryz.prog.cellsOf 40=1:=by kernel_rfl
   rw [hC] at hcell
   have hb:∀ i:_root_.Fin m,∃ z:Int,w.cell? (a.add i.1)=some (.int .u32 z)∧(Lit.int .u32 z).wf=true:=fun i=>by
    obtain ⟨cs',h1,h2⟩:=hcell i.1 i.2
    obtain ⟨_,hcl,hat⟩:=World.cells?_some h1
    obtain ⟨z,e0,_,wz⟩:=DataW.trod_int Tryz.underlying40 h2
    subst e0
    have:=hat 0 (by omega)
    rw [Nat.mul_one] at this
    exact ⟨z,by simpa [Addr.add] using this,wz⟩
   obtain ⟨f,hf⟩:∃ f:_root_.Fin m→Int,∀ i,w.cell? (a.add i.1)=some (.int .u32 (f i))∧(Lit.int .u32 (f i)).wf=true:=⟨fun i=>(hb i).choose,fun i=>(hb i).choose_spec⟩
   obtain ⟨g,o,ha,hg⟩:=addr_of (hf ⟨0,by omega⟩).1
   subst ha
   refine ⟨(some ⟨g,o,none⟩,m,(List.range len).map fun i=>if hi:i<m then f ⟨i,hi⟩ else 0),⟨fun _=>⟨by simpa using hl,hm,.inr ⟨g,o,rfl,hg,fun j v hj=>?_⟩⟩,fun h=>absurd h hc,fun h=>(by cases h),fun z hz=>?_⟩,by rw [hcs];simp [slE]⟩
   ·rw [flat_ints] at hj
    have hjl:j<len:=by have:=(List.getElem?_eq_some_iff.1 hj).1;simpa using this
    have hjm:j<m:=by omega
    have:=(hf ⟨j,hjm⟩).1
    rw [add_none] at this
    rw [this]
    simpa [hjl,hjm] using hj
   ·obtain ⟨i,_,rfl⟩:=List.mem_map.1 hz
    by_cases hi:i<m
    ·have:=(hf ⟨i,hi⟩).2
     simp only [hi,dif_pos]
     exact wf_u32 this
    ·simp only [hi,dif_neg,not_false_eq_true];exact u0
theorem open_codes {H:Type} {enc:TypeId × Value→H} {w:World} {base b0:Nat} {held:Bool} {r:Reach} {v:Value} {d:DataW H} {p:List MemPlace} (hv:Value.okWide Tryz.prog w r b0 22 v) (h:DataW.Trod enc Tryz.prog w base (fun _=>true) held 22 v d p):∃ A cap l,v = .slice A l.length cap∧View slE w A cap l∧∀ m∈l,InOk w m:=
 open_recs (E:=slE) Tryz.underlying22 (by kernel_rfl) (fun _ _ _ h=>open_in h) hv h
theorem cds_W {W:World} {A:Option Addr} {cap:Nat} {l:List (Option Addr × Nat × List Int)} (h:View slE W A cap l) (hi:∀ m∈l,InOk W m):Cds (.hp (hpP W)) A cap l:=
 ⟨view_W h,fun m hm h0=>view_W ((hi m hm).v h0),fun m hm=>(hi m hm).z,fun m hm=>(hi m hm).n,fun m hm=>(hi m hm).u⟩
theorem wf_u8 {a:Int} (h:(Lit.int .u8 a).wf=true):0≤a∧a<256:=by
 simp [Lit.wf,IntKind.min,IntKind.max,IntKind.signed,IntKind.bits] at h
 omega
theorem wf_i64 {a:Int} (h:(Lit.int .i64 a).wf=true) : -9223372036854775808≤a∧a≤9223372036854775807:=by
 simp [Lit.wf,IntKind.min,IntKind.max,IntKind.signed,IntKind.bits] at h
 omega
theorem wld_cells {w:World} {r:Reach} {b0:Nat} {v:Value} (hv:Value.okWide Tryz.prog w r b0 25 v):∃ v0 v1 v2 v3,v = .agg #[v0,v1,v2,v3]∧Value.okWide Tryz.prog w r b0 22 v0∧Value.okWide Tryz.prog w r b0 23 v1:=by
 simp only [Value.okWide,Tryz.underlying25] at hv
 obtain ⟨cs,rfl,hsz,ts,hts,_,hall⟩:=hv
 have hC:Tryz.prog.cellsOf 25=4:=by kernel_rfl
 rw [hC] at hsz
 obtain rfl:ts=[22,23,3,3]:=Option.some.inj (hts.symm.trans (by kernel_rfl))
 obtain ⟨l⟩:=cs
 match l,hsz with
 | [v0,v1,v2,v3],_=>
  refine ⟨v0,v1,v2,v3,rfl,?_,?_⟩
  ·obtain ⟨u,hu,ho⟩:=hall 0 v0 rfl
   obtain rfl:22=u:=Option.some.inj hu
   simp only [Value.okWide,Tryz.underlying22]
   exact ho
  ·obtain ⟨u,hu,ho⟩:=hall 1 v1 rfl
   obtain rfl:23=u:=Option.some.inj hu
   simp only [Value.okWide,Tryz.underlying23]
   exact ho
theorem open_wld {H:Type} {enc:TypeId × Value→H} {w:World} {base b0:Nat} {held:Bool} {r:Reach} {v:Value} {d:DataW H} {p:List MemPlace} (hv:Value.okWide Tryz.prog w r b0 25 v) (h:DataW.Trod enc Tryz.prog w base (fun _=>true) held 25 v d p) :
  ∃ x:Wld,v = .agg x.cells.toArray∧View slE w x.A x.cap x.l∧(∀ m∈x.l,InOk w m)∧View u8E w x.B x.capb x.bs∧∀ a∈x.bs,0≤a∧a<256:=by
 obtain ⟨v0,v1,v2,v3,rfl,o0,o1⟩:=wld_cells hv
 obtain ⟨fuel,hf⟩:=h
 obtain ⟨xs,n,_,_,hl,hlen,hg⟩:=DataW.trod_struct Tryz.underlying25 hf
 match xs,hlen with
 | [y0,y1,y2,y3],_=>
  have c22:Tryz.prog.cellsOf 22=1:=by kernel_rfl
  have c23:Tryz.prog.cellsOf 23=1:=by kernel_rfl
  have c3:Tryz.prog.cellsOf 3=1:=by kernel_rfl
  have h0:DataW.trod enc Tryz.prog w base (fun _=>true) held n 22 (([v0,v1,v2,v3].drop 0).take (Tryz.prog.cellsOf 22))=some y0:=hg 0 _ rfl
  have h1:DataW.trod enc Tryz.prog w base (fun _=>true) held n 23 (([v0,v1,v2,v3].drop 1).take (Tryz.prog.cellsOf 23))=some y1:=hg 1 _ rfl
  have h2:DataW.trod enc Tryz.prog w base (fun _=>true) held n 3 (([v0,v1,v2,v3].drop 2).take (Tryz.prog.cellsOf 3))=some y2:=hg 2 _ rfl
  have h3:DataW.trod enc Tryz.prog w base (fun _=>true) held n 3 (([v0,v1,v2,v3].drop 3).take (Tryz.prog.cellsOf 3))=some y3:=hg 3 _ rfl
  rw [c22] at h0
  rw [c23] at h1
  rw [c3] at h2 h3
  obtain ⟨a2,e2,_⟩:=DataW.trod_int Tryz.underlying3 h2
  obtain ⟨a3,e3,_⟩:=DataW.trod_int Tryz.underlying3 h3
  obtain rfl:v2 = .int .i64 a2:=by simpa using e2
  obtain rfl:v3 = .int .i64 a3:=by simpa using e3
  have k0:DataW.Trod enc Tryz.prog w base (fun _=>true) held 22 v0 y0.1 y0.2:=by
   obtain ⟨A,len,cap,rfl⟩:=okWide_slice Tryz.underlying22 o0
   exact ⟨n,h0⟩
  have k1:DataW.Trod enc Tryz.prog w base (fun _=>true) held 23 v1 y1.1 y1.2:=by
   obtain ⟨A,len,cap,rfl⟩:=okWide_slice Tryz.underlying23 o1
   exact ⟨n,h1⟩
  obtain ⟨A,cap,l,rfl,hA,hi⟩:=open_codes o0 k0
  obtain ⟨B,capb,bs,rfl,hB,hb⟩:=open_recs (E:=u8E) (OK:=fun a=>0≤a∧a<256) Tryz.underlying23 (by kernel_rfl) (fun _ _ _ h=>by
   obtain ⟨z,e,_,wz⟩:=DataW.trod_int Tryz.underlying5 h
   exact ⟨z,wf_u8 wz,e⟩) o1 k1
  exact ⟨⟨A,cap,l,B,capb,bs,a2,a3⟩,rfl,hA,hi,hB,hb⟩
theorem wld_in {W:World} {x:Wld} (hA:View slE W x.A x.cap x.l) (hi:∀ m∈x.l,InOk W m) (hB:View u8E W x.B x.capb x.bs) (hb:∀ a∈x.bs,0≤a∧a<256):x.In (.hp (hpP W)):=⟨cds_W hA hi,view_W hB,hb⟩
theorem open_cho {H:Type} {enc:TypeId × Value→H} {w:World} {base:Nat} {held:Bool} {fuel:Nat} {cs:List Value} {x:DataW H × List MemPlace} (h:DataW.trod enc Tryz.prog w base (fun _=>true) held fuel 71 cs=some x):∃ m:Cho,ChoIn m∧cs=choE.cells m:=by
 obtain ⟨xs,n,_,_,hl,hlen,hg⟩:=DataW.trod_struct Tryz.underlying71 h
 have hC:Tryz.prog.cellsOf 71=3:=by kernel_rfl
 rw [hC] at hl
 match cs,hl,xs,hlen with
 | [v0,v1,v2],_,[y0,y1,y2],_=>
  have h0:=hg 0 _ rfl
  have h1:=hg 1 _ rfl
  have h2:=hg 2 _ rfl
  obtain ⟨a0,e0,_⟩:=DataW.trod_int (k := .i64) (by kernel_rfl) (show _=some y0 from h0)
  obtain ⟨a1,e1,_,w1⟩:=DataW.trod_int (k := .i64) (by kernel_rfl) (show _=some y1 from h1)
  obtain ⟨a2,e2,_,w2⟩:=DataW.trod_int (k := .i64) (by kernel_rfl) (show _=some y2 from h2)
  refine ⟨⟨a0,a1,a2⟩,⟨wf_i64 w1,wf_i64 w2⟩,?_⟩
  have d0:[v0]=[Value.int .i64 a0]:=e0
  have d1:[v1]=[Value.int .i64 a1]:=e1
  have d2:[v2]=[Value.int .i64 a2]:=e2
  show [v0,v1,v2]=[Value.int .i64 a0,.int .i64 a1,.int .i64 a2]
  simp_all
theorem open_chos {H:Type} {enc:TypeId × Value→H} {w:World} {base b0:Nat} {held:Bool} {r:Reach} {v:Value} {d:DataW H} {p:List MemPlace} (hv:Value.okWide Tryz.prog w r b0 26 v) (h:DataW.Trod enc Tryz.prog w base (fun _=>true) held 26 v d p):∃ A cap l,v = .slice A l.length cap∧View choE w A cap l∧∀ m∈l,ChoIn m:=
 open_recs (E:=choE) Tryz.underlying26 (by kernel_rfl) (fun _ _ _ h=>open_cho h) hv h
end Go.Proofs.YtpfijldkkfiooaaGreatDoor
namespace Go.Proofs.YtpfijldkkfiooaaGreatDoor.Ch
open Go Go.RowKit
def stateOf (L:List Ln) (num:Int):Int:=((getN L num).getD ln0).state
def setLn (bs:List Int) (n:Int) (b:B16):List Int:=if bs.length/16≤n.toNat then bs else Go.Proofs.YtpfijldkkfiooaaGreatDoor.setLn bs n b
theorem setLn_length (bs:List Int) (n:Int) (b:B16):(setLn bs n b).length=bs.length:=by
 unfold setLn
 split
 ·rfl
 ·unfold Go.Proofs.YtpfijldkkfiooaaGreatDoor.setLn setF
  have:=b.2.1
  rw [List.length_append,List.length_append,List.length_take,List.length_drop]
  omega
theorem lineF_at (bs:List Int) (k:Nat):lineF bs k=(bs.drop (16*k)).take 16:=by
 unfold lineF
 rw [List.drop_take,Nat.mul_comm k 16]
 congr 1
 omega
theorem lineF_set (bs:List Int) (n k:Nat) (b:List Int) (hb:b.length=16) (hn:n<bs.length/16) (hk:k<bs.length/16):lineF (setF bs n b) k=if k=n then b else lineF bs k:=by
 have hl:(setF bs n b).length=bs.length:=by
  unfold setF
  rw [List.length_append,List.length_append,List.length_take,List.length_drop]
  omega
 rw [lineF_at,lineF_at]
 apply List.ext_getElem?
 intro i
 by_cases hi:i<16
 ·rw [List.getElem?_take_of_lt hi,List.getElem?_drop]
  unfold setF
  rw [List.append_assoc]
  split
  ·rename_i e
   subst e
   rw [List.getElem?_append_right (by rw [List.length_take];omega),List.getElem?_append_left (by rw [List.length_take];omega),List.length_take]
   congr 1
   omega
  ·rename_i e
   rw [List.getElem?_take_of_lt hi,List.getElem?_drop]
   by_cases h1:k<n
   ·rw [List.getElem?_append_left (by rw [List.length_take];omega),List.getElem?_take_of_lt (by omega)]
   ·rw [List.getElem?_append_right (by rw [List.length_take];omega),List.getElem?_append_right (by rw [List.length_take];omega),List.getElem?_drop,List.length_take]
    congr 1
    omega
 ·rw [List.getElem?_eq_none (by rw [List.length_take];omega)]
  split
  ·rw [List.getElem?_eq_none (by omega)]
  ·rw [List.getElem?_eq_none (by rw [List.length_take];omega)]
theorem lineB_set (bs:List Int) (n k:Int) (b:B16) (_h0:0≤n) (_h1:0≤k) (hk:k.toNat<bs.length/16) (h:k≠n):lineB (setLn bs n b) k=lineB bs k:=by
 unfold setLn
 split
 ·rfl
 ·have e:lineF (setF bs n.toNat b.1) k.toNat=lineF bs k.toNat:=by
   rw [lineF_set _ _ _ _ b.2.1 (by omega) hk,if_neg (by omega)]
  unfold lineB Go.Proofs.YtpfijldkkfiooaaGreatDoor.setLn
  simp only [e]
theorem lineB_same (bs:List Int) (n:Int) (b:B16) (_h0:0≤n) (hk:n.toNat<bs.length/16):lineB (setLn bs n b) n=b:=by
 unfold setLn
 rw [if_neg (by omega)]
 have e:lineF (setF bs n.toNat b.1) n.toNat=b.1:=by rw [lineF_set _ _ _ _ b.2.1 hk hk,if_pos rfl]
 unfold lineB Go.Proofs.YtpfijldkkfiooaaGreatDoor.setLn
 simp only [e]
 rw [dif_pos b.2]
end Go.Proofs.YtpfijldkkfiooaaGreatDoor.Ch
namespace Go.Proofs.YtpfijldkkfiooaaGreatDoor.Ch
open Go Go.RowKit
set_option linter.unusedVariables false
def askM (id:Int) (line:Int) (wr:Bool) (h:0≤line∧line<4294967296):Msg:=mkM (if wr then 2 else 1) id 4 line b16z h
def putM (id:Int) (x:Ln):Msg:=mkM 3 id 4 x.num x.bs x.hn
def outF (d:CD) (x:Ln):CD × List Msg × Bool:=
 if x.state=1 then ({ d with L:=dropL d.L x.num },[],true)
 else match d.giv with
  | some _=>(d,[],false)
  | none=>({ d with L:=dropL d.L x.num,giv:=some x },[putM d.id x],true)
def mine (giv:Option Ln) (line:Int):Bool:=match giv with | some x=>decide (x.num=line) | none=>false
def askF (d:CD) (line:Int) (h:0≤line∧line<4294967296) (wr:Bool) (pick:Int):CD × List Msg × Int:=
 if d.ask.isSome=true∨mine d.giv line=true then (d,[],230)
 else if stateOf d.L line≠0∧(wr=false∨writesB (stateOf d.L line)=true) then (d,[],231)
 else match vicL d.n d.ways d.L line pick with
  | none=>({ d with ask:=some (line,wr) },[askM d.id line wr h],0)
  | some x=>if (outF d x).2.2=true then ({ (outF d x).1 with ask:=some (line,wr) },(outF d x).2.1++[askM d.id line wr h],0) else (d,[],230)
def dataOk (d:CD) (m:Msg):Bool:=match d.ask with | some (l,wr)=>decide (l=m.line) && (wr == decide (m.kind=10)) | none=>false
def dataLn (m:Msg):Ln:=mkL m.line (if m.kind=8 then 1 else 2) m.bs m.hn
def takeF (d:CD) (m:Msg):CD × List Msg × Int:=
 if chk m≠0∨m.dst≠d.id then (d,[],2)
 else if m.kind=8∨m.kind=9∨m.kind=10 then
  (if dataOk d m=true∧putE d.n d.ways d.L (dataLn m)=0 then ({ d with L:=putL d.n d.ways d.L (dataLn m),ask:=none },[mkM 13 d.id 4 m.line b16z m.hn],0) else (d,[],220))
 else if m.kind=4∨m.kind=5 then
  (match d.giv with
   | some x=>if x.num=m.line then (d,[mkM 11 d.id 4 m.line x.bs m.hn],0) else backF d m
   | none=>backF d m)
 else if m.kind=6 then (if writesB (stateOf d.L m.line)=true then (d,[],220) else ({ d with L:=dropL d.L m.line },[mkM 12 d.id 4 m.line b16z m.hn],0))
 else if mine d.giv m.line=true then ({ d with giv:=none },[],0) else (d,[],220)
where
 backF (d:CD) (m:Msg):CD × List Msg × Int:=
  if writesB (stateOf d.L m.line)=true then
   ({ d with L:=if m.kind=4 then putL d.n d.ways d.L { (getN d.L m.line).getD ln0 with state:=1 } else dropL d.L ((getN d.L m.line).getD ln0).num },[mkM 11 d.id 4 m.line ((getN d.L m.line).getD ln0).bs m.hn],0)
  else (d,[],220)
def evictF (d:CD) (pick:Int):CD × List Msg:=if d.L=[] then (d,[]) else ((outF d ((allL d.n d.L).getD (pickAt pick d.L.length) ln0)).1,(outF d ((allL d.n d.L).getD (pickAt pick d.L.length) ln0)).2.1)
theorem get_num {L:List Ln} {num:Int} {x:Ln} (h:getN L num=some x):x.num=num:=by
 have:=List.find?_some h
 simpa [isNum] using this
theorem w_there {L:List Ln} {num:Int} (h:writesB ((getN L num).getD ln0).state=true):∃ y,getN L num=some y∧(getN L num).getD ln0=y:=by
 cases hg:getN L num with
 | none=>rw [hg] at h;exact absurd h (by decide)
 | some y=>exact ⟨y,rfl,rfl⟩
theorem put_there {n:Nat} {ways:Int} {L:List Ln} {num:Int} (h:writesB ((getN L num).getD ln0).state=true) (x:Ln) (h1:x.num=((getN L num).getD ln0).num) (h2:x.state=3):putE n ways L x=0:=by
 obtain ⟨y,hy,hd⟩:=w_there h
 have hn:x.num=num:=by rw [h1,hd];exact get_num hy
 have ho:¬ okS x=false:=by simp [okS,h2]
 unfold putE
 rw [if_neg ho,if_neg (fun hh=>by rw [hn,hy] at hh;cases hh.1)]
def HasRoom (n:Nat) (ways:Int) (L:List Ln) (num:Int):Prop:=getN L num=none→((ofs n L (si n num)).length:Int)<ways
def RoomOk (d:CD):Prop:=∀ l wr,d.ask=some (l,wr)→HasRoom d.n d.ways d.L l
section
variable {n:Nat} {ways:Int} {L:List Ln} {num k:Int} {x:Ln}
theorem mem_of_get (h:getN L num=some x):x∈L:=List.mem_of_find?_eq_some h
theorem drop_lt {l:List Ln} (h:∃ y∈l,y.num=num):(dropL l num).length<l.length:=by
 unfold dropL
 induction l with
 | nil=>obtain ⟨y,hy,_⟩:=h;cases hy
 | cons z r ih=>
  by_cases hz:z.num=num
  ·rw [List.filter_cons_of_neg (by simp [isNum,hz])]
   have:=List.length_filter_le (fun x => !isNum num x) r
   simp only [List.length_cons]
   omega
  ·rw [List.filter_cons_of_pos (by simp [isNum,hz])]
   obtain ⟨y,hy,he⟩:=h
   rcases List.mem_cons.1 hy with rfl | hy
   ·exact absurd he hz
   ·have:=ih ⟨y,hy,he⟩
    simp only [List.length_cons]
    omega
theorem get_drop:getN (dropL L k) num=if num=k then none else getN L num:=by
 unfold getN dropL
 induction L with
 | nil=>simp
 | cons z r ih=>
  by_cases hz:z.num=k
  ·rw [List.filter_cons_of_neg (by simp [isNum,hz]),ih]
   by_cases hn:num=k
   ·simp [hn]
   ·have:isNum num z=false:=by simp [isNum,hz];exact fun e=>hn e.symm
    simp [hn,List.find?,this]
  ·rw [List.filter_cons_of_pos (by simp [isNum,hz])]
   by_cases hn:num=k
   ·have:isNum num z=false:=by simp [isNum,hn,hz]
    simp only [List.find?,this,ih]
    try simp [hn]
   ·simp only [List.find?,ih,if_neg hn]
theorem get_repl (h:getN L x.num≠none):getN (repl x L) num=if num=x.num then some x else getN L num:=by
 unfold getN at *
 induction L with
 | nil=>simp at h
 | cons z r ih=>
  by_cases hz:z.num=x.num
  ·simp only [repl,if_pos hz]
   by_cases hn:num=x.num
   ·simp [hn,List.find?,isNum]
   ·have h1:isNum num x=false:=by simp [isNum];exact fun e=>hn e.symm
    have h2:isNum num z=false:=by simp [isNum,hz];exact fun e=>hn e.symm
    simp [hn,List.find?,h1,h2]
  ·simp only [repl,if_neg hz]
   have h3:isNum x.num z=false:=by simp [isNum,hz]
   rw [List.find?,h3] at h
   by_cases hn:num=x.num
   ·have:isNum num z=false:=by simp [isNum,hn,hz]
    simp only [List.find?,this,ih h]
   ·simp only [List.find?,ih h,if_neg hn]
theorem mem_ofs (h:x∈L):x∈ofs n L (si n x.num):=List.mem_filter.2 ⟨h,by simp [inSet]⟩
theorem HasRoom.drop (hn:0<n) (hf:Fits n ways L) (h:HasRoom n ways L num) (k:Int):HasRoom n ways (dropL L k) num:=by
 intro h1
 rw [ofs_drop]
 have h2:=dropL_le (ofs n L (si n num)) k
 have h3:=hf _ (si_lt (num:=num) hn)
 cases hg:getN L num with
 | none=>have:=h hg;omega
 | some y=>
  rw [get_drop,hg] at h1
  split at h1
  ·rename_i e
   subst e
   have hy:=get_num hg
   have:=drop_lt (num:=num) (l:=ofs n L (si n num)) ⟨y,by have:=mem_ofs (n:=n) (mem_of_get hg);rwa [hy] at this,hy⟩
   omega
  ·cases h1
theorem putL_there (h:getN L x.num≠none) (he:putE n ways L x=0):putL n ways L x=repl x L:=by
 unfold putL
 rw [if_pos he,if_neg h]
theorem HasRoom.repl (h:HasRoom n ways L num) (hx:getN L x.num≠none):HasRoom n ways (repl x L) num:=by
 intro h1
 rw [get_repl hx] at h1
 split at h1
 ·cases h1
 ·by_cases e:si n num=si n x.num
  ·rw [e,ofs_repl_same,repl_len,← e];exact h h1
  ·rw [ofs_repl_other _ _ e];exact h h1
theorem room_vic (h:vicL n ways L num k=none):HasRoom n ways L num:=by
 intro h1
 unfold vicL at h
 split at h
 ·cases h
 ·rename_i h2
  have:¬ ways≤((ofs n L (si n num)).length:Int):=fun h3=>h2 ⟨h1,h3⟩
  omega
theorem vic_mem (hw:1≤ways) (h:vicL n ways L num k=some x):x∈ofs n L (si n num)∧getN L num=none∧ways≤((ofs n L (si n num)).length:Int):=by
 unfold vicL at h
 split at h
 ·rename_i h2
  cases h
  refine ⟨?_,h2⟩
  have hl:0<(ofs n L (si n num)).length:=by omega
  have hp:=pickAt_lt k _ hl
  simp [List.getD,hp]
 ·cases h
theorem room_out (hn:0<n) (hw:1≤ways) (hf:Fits n ways L) (h:vicL n ways L num k=some x):HasRoom n ways (dropL L x.num) num:=by
 intro _
 obtain ⟨h1,h2,h3⟩:=vic_mem hw h
 rw [ofs_drop]
 have h4:=drop_lt (num:=x.num) (l:=ofs n L (si n num)) ⟨x,h1,rfl⟩
 have h5:=hf _ (si_lt (num:=num) hn)
 omega
end
section
variable {d:CD} (hb:0<d.n∧d.n≤64∧1≤d.ways∧d.ways≤8) (hf:Fits d.n d.ways d.L) (hr:RoomOk d)
include hf hr
theorem RoomOk.drop (hb:0<d.n∧d.n≤64∧1≤d.ways∧d.ways≤8) (k:Int) (g:Option Ln):RoomOk { d with L:=dropL d.L k,giv:=g }:=fun l wr h=>(hr l wr h).drop hb.1 hf k
include hb
theorem ask_room (line:Int) (hln:0≤line∧line<4294967296) (wr:Bool) (pick:Int):RoomOk (askF d line hln wr pick).1:=by
 unfold askF
 split
 ·exact hr
 ·split
  ·exact hr
  ·split
   ·rename_i hv
    intro l w' h
    cases h
    exact room_vic hv
   ·rename_i x hv
    split
    ·intro l w' h
     cases h
     show HasRoom (outF d x).1.n (outF d x).1.ways (outF d x).1.L line
     rename_i ho
     unfold outF at ho ⊢
     split
     ·exact room_out hb.1 hb.2.2.1 hf hv
     ·split
      ·rename_i h1 _ _ h2
       rw [if_neg h1] at ho
       simp [h2] at ho
      ·exact room_out hb.1 hb.2.2.1 hf hv
    ·exact hr
theorem back_room (m:Msg):RoomOk (takeF.backF d m).1:=by
 unfold takeF.backF
 split
 ·rename_i h
  have h:writesB ((getN d.L m.line).getD ln0).state=true:=h
  obtain ⟨y,hy,hd⟩:=w_there h
  rw [hd]
  by_cases hk:m.kind=4
  ·simp only [hk,if_true]
   intro l w' hl
   have hx:getN d.L ({ y with state:=1 }:Ln).num≠none:=by
    show getN d.L y.num≠none
    rw [get_num hy,hy]
    simp
   have hp:putE d.n d.ways d.L { y with state:=1 }=0:=by
    unfold putE
    rw [if_neg (by simp [okS]),if_neg (fun hh=>hx hh.1)]
   show HasRoom d.n d.ways (putL d.n d.ways d.L { y with state:=1 }) l
   rw [putL_there hx hp]
   exact (hr l w' hl).repl hx
  ·simp only [if_neg hk]
   exact RoomOk.drop hf hr hb y.num d.giv
 ·exact hr
theorem take_room (m:Msg):RoomOk (takeF d m).1:=by
 unfold takeF
 split
 ·exact hr
 split
 ·split
  ·intro l w' h
   cases h
  ·exact hr
 split
 ·split
  ·split
   ·exact hr
   ·exact back_room hb hf hr m
  ·exact back_room hb hf hr m
 split
 ·split
  ·exact hr
  ·exact RoomOk.drop hf hr hb m.line d.giv
 split
 ·exact fun l w' h=>hr l w' h
 ·exact hr
omit hb hf in
theorem data_room (m:Msg) (h:dataOk d m=true):putE d.n d.ways d.L (dataLn m)=0:=by
 unfold dataOk at h
 split at h
 ·rename_i l wr ha
  simp only [Bool.and_eq_true,decide_eq_true_eq] at h
  have h1:=hr l wr ha
  rw [h.1] at h1
  have ho:¬ okS (dataLn m)=false:=by
   simp only [okS,dataLn,mkL]
   split <;> decide
  have h2:(dataLn m).num=m.line:=rfl
  unfold putE
  rw [if_neg ho,if_neg]
  rintro ⟨h3,h4⟩
  rw [h2] at h3 h4
  have:=h1 h3
  omega
 ·cases h
omit hf hr hb in
theorem new_room (id:Int) (n:Nat) (ways:Int):RoomOk ⟨id,n,ways,[],none,none⟩:=fun l w' h=>by cases h
end
def StOk (L:List Ln):Prop:=∀ x∈L,1≤x.state∧x.state≤3
section
variable {n:Nat} {ways:Int} {L:List Ln} {x:Ln}
theorem StOk.nil:StOk []:=fun x h=>by cases h
theorem StOk.drop (h:StOk L) (k:Int):StOk (dropL L k):=fun x hx=>h x (List.mem_filter.1 hx).1
theorem StOk.putL (h:StOk L) (x:Ln):StOk (putL n ways L x):=by
 unfold Go.Proofs.YtpfijldkkfiooaaGreatDoor.putL
 split
 ·rename_i he
  have hx:1≤x.state∧x.state≤3:=by
   unfold putE at he
   split at he
   ·omega
   ·rename_i h2
    simp [okS] at h2
    omega
  split
  ·intro y hy
   rcases List.mem_append.1 hy with hy | hy
   ·exact h y hy
   ·rw [List.mem_singleton] at hy
    subst hy
    exact hx
  ·intro y hy
   rcases mem_repl hy with hy | rfl
   ·exact h y hy
   ·exact hx
 ·exact h
theorem st_of (h:StOk L) (num:Int):stateOf L num=0∧getN L num=none∨(1≤stateOf L num∧stateOf L num≤3)∧∃ y,getN L num=some y∧stateOf L num=y.state:=by
 unfold stateOf
 cases hg:getN L num with
 | none=>exact .inl ⟨rfl,rfl⟩
 | some y=>exact .inr ⟨h y (mem_of_get hg),y,rfl,rfl⟩
end
structure DOk (d:CD):Prop where
 id:0≤d.id∧d.id<4
 bd:0<d.n∧d.n≤64∧1≤d.ways∧d.ways≤8
 uniq:Uniq d.L
 fits:Fits d.n d.ways d.L
 room:RoomOk d
 st:StOk d.L
section
variable {d:CD}
theorem DOk.new {id:Int} {n:Nat} {ways:Int} (hid:0≤id∧id<4) (hb:0<n∧n≤64∧1≤ways∧ways≤8):DOk ⟨id,n,ways,[],none,none⟩:=⟨hid,hb,List.Pairwise.nil,Fits.nil (by show 0≤ways;omega),new_room id n ways,StOk.nil⟩
theorem DOk.drop (h:DOk d) (k:Int) (g:Option Ln):DOk { d with L:=dropL d.L k,giv:=g }:=⟨h.id,h.bd,h.uniq.drop k,h.fits.drop k,RoomOk.drop h.fits h.room h.bd k g,h.st.drop k⟩
theorem DOk.out (h:DOk d) (x:Ln):DOk (outF d x).1:=by
 unfold outF
 split
 ·exact h.drop x.num d.giv
 ·split
  ·exact h
  ·exact h.drop x.num (some x)
theorem DOk.ask (h:DOk d) (line:Int) (hl:0≤line∧line<4294967296) (wr:Bool) (pick:Int):DOk (askF d line hl wr pick).1:=by
 have hr:=ask_room h.bd h.fits h.room line hl wr pick
 revert hr
 unfold askF
 split
 ·exact fun _=>h
 ·split
  ·exact fun _=>h
  ·split
   ·exact fun hr=>⟨h.id,h.bd,h.uniq,h.fits,hr,h.st⟩
   ·split
    ·intro hr
     have ho:=h.out ‹Ln›
     exact ⟨ho.id,ho.bd,ho.uniq,ho.fits,hr,ho.st⟩
    ·exact fun _=>h
theorem DOk.back (h:DOk d) (m:Msg):DOk (takeF.backF d m).1:=by
 have hr:=back_room h.bd h.fits h.room m
 revert hr
 unfold takeF.backF
 split
 ·by_cases k:m.kind=4
  ·simp only [k,if_true]
   exact fun hr=>⟨h.id,h.bd,h.uniq.putL,h.fits.putL _,hr,h.st.putL _⟩
  ·simp only [if_neg k]
   exact fun _=>h.drop _ d.giv
 ·exact fun _=>h
theorem DOk.take (h:DOk d) (m:Msg):DOk (takeF d m).1:=by
 have hr:=take_room h.bd h.fits h.room m
 revert hr
 unfold takeF
 split
 ·exact fun _=>h
 split
 ·split
  ·exact fun hr=>⟨h.id,h.bd,h.uniq.putL,h.fits.putL _,hr,h.st.putL _⟩
  ·exact fun _=>h
 split
 ·split
  ·split
   ·exact fun _=>h
   ·exact fun _=>h.back m
  ·exact fun _=>h.back m
 split
 ·split
  ·exact fun _=>h
  ·exact fun _=>h.drop m.line d.giv
 split
 ·exact fun hr=>⟨h.id,h.bd,h.uniq,h.fits,hr,h.st⟩
 ·exact fun _=>h
end
structure EOk (n:Int) (d:Ent):Prop where
 asks:0≤d.asks∧d.asks<4
 told:d.told=true→d.waits=0
 own : -1≤d.o∧d.o<4
 q:∀ m∈d.q,1≤m.kind∧m.kind≤3∧0≤m.src∧m.src<4∧m.line=n
 waits:0≤d.waits∧d.waits≤4
 kind:d.busy=true→d.kind=1∨d.kind=2
def othK (sh:Sh) (r:Int):Nat→List Int
 | 0=>[]
 | k+1=>if (sh.get k && decide ((k:Int)≠r))=true then othK sh r k++[(k:Int)] else othK sh r k
def othersF (sh:Sh) (r:Int):List Int:=othK sh r 4
def leaveF (d:Ent) (r:Int):Ent:={ d with o:=if d.o=r then -1 else d.o }
def ownF (d:Ent) (r:Int):Ent:={ d with o:=r,sh:=sh0 }
def busyF (d:Ent) (m:Msg) (waits:Int) (told:Bool):Ent:={ d with busy:=true,asks:=m.src,kind:=m.kind,waits:=waits,told:=told }
def sendM (m:Msg) (kind dst:Int) (b:B16:=b16z):Msg:=mkM kind 4 dst m.line b m.hn
def beginF (bs:List Int) (d:Ent) (m:Msg):Ent × List Int × List Msg:=
 if m.kind=3 then ((leaveF d m.src),(if d.o=m.src then setLn bs m.line m.bs else bs),[sendM m 7 m.src])
 else
  let e:=leaveF d m.src
  if 0≤e.o then (busyF e m 1 false,bs,[sendM m (3+m.kind) e.o])
  else if m.kind=2 then
   if othersF e.sh m.src=[] then (busyF (ownF e m.src) m 0 true,bs,[sendM m 10 m.src (lineB bs m.line)])
   else (busyF e m (othersF e.sh m.src).length false,bs,(othersF e.sh m.src).map (sendM m 6))
  else if othersF e.sh m.src=[] then (busyF (ownF e m.src) m 0 true,bs,[sendM m 9 m.src (lineB bs m.line)])
  else (busyF { e with sh:=e.sh.set m.src true } m 0 true,bs,[sendM m 8 m.src (lineB bs m.line)])
def drainF:List Msg→List Int→Ent→Ent × List Int × List Msg
 | [],bs,d=>({ d with q:=[] },bs,[])
 | m::r,bs,d=>if d.busy then ({ d with q:=m::r },bs,[])
  else
   let x:=beginF bs { d with q:=r } m
   let y:=drainF r x.2.1 x.1
   (y.1,y.2.1,x.2.2++y.2.2)
def strayF (d:Ent) (m:Msg):Bool:=
 !d.busy || (decide (m.kind<13) && decide (d.waits<1)) || (decide (m.kind=11) && decide (d.o≠m.src)) || (decide (m.kind=12) && (decide (0≤d.o) || !d.sh.get m.src || decide (m.src=d.asks))) || (decide (m.kind=13) && (!d.told || decide (d.asks≠m.src)))
def otherF (bs:List Int) (d:Ent) (m:Msg):Ent × List Int × List Msg:=
 if m.kind=13 then drainF d.q bs { d with busy:=false,asks:=0,kind:=0,waits:=0,told:=false }
 else if m.kind=11 then
  let bs':=setLn bs m.line m.bs
  if d.kind=1 then ({ d with o := -1,sh:=(sh0.set m.src true).set d.asks true,waits:=0,told:=true },bs',[sendM m 8 d.asks (lineB bs' m.line)])
  else ({ ownF d d.asks with waits:=0,told:=true },bs',[sendM m 10 d.asks (lineB bs' m.line)])
 else
  if d.waits=1 then ({ ownF d d.asks with waits:=0,told:=true },bs,[sendM m 10 d.asks (lineB bs m.line)])
  else ({ d with sh:=d.sh.set m.src false,waits:=d.waits-1 },bs,[])
def takeH (h:HD) (m:Msg):HD × List Msg × Int:=
 if chk m≠0∨m.dst≠4 then (h,[],2)
 else if (h.E.length:Int)≤m.line then (h,[],4)
 else
  let d:=h.E.getD m.line.toNat ent0
  let put:=fun (x:Ent × List Int × List Msg)=>(({ bs:=x.2.1,E:=h.E.set m.line.toNat x.1 }:HD),x.2.2,(0:Int))
  if m.kind≤3 then
   if d.busy then put ({ d with q:=d.q++[m] },h.bs,[]) else put (beginF h.bs d m)
  else if strayF d m then (h,[],220)
  else put (otherF h.bs d m)
theorem othK_len (sh:Sh) (r:Int):∀ i,(othK sh r i).length≤i
 | 0=>Nat.le_refl _
 | i+1=>by
  have:=othK_len sh r i
  unfold othK
  split
  ·simp;omega
  ·omega
section
variable {bs:List Int} {d:Ent} {m:Msg}
theorem begin_put (h:m.kind=3):beginF bs d m=(leaveF d m.src,(if d.o=m.src then setLn bs m.line m.bs else bs),[sendM m 7 m.src]):=by unfold beginF;rw [if_pos h]
theorem begin_s1 (h:m.kind=1) (h1:0≤(leaveF d m.src).o):beginF bs d m=(busyF (leaveF d m.src) m 1 false,bs,[sendM m 4 (leaveF d m.src).o]):=by
 unfold beginF;rw [if_neg (by omega)];dsimp only;rw [if_pos h1,h];rfl
theorem begin_s2 (h:m.kind=1) (h1:¬ 0≤(leaveF d m.src).o) (h2:0<(othersF (leaveF d m.src).sh m.src).length):beginF bs d m=(busyF { leaveF d m.src with sh:=(leaveF d m.src).sh.set m.src true } m 0 true,bs,[sendM m 8 m.src (lineB bs m.line)]):=by
 unfold beginF;rw [if_neg (by omega)];dsimp only;rw [if_neg h1,if_neg (by omega),if_neg (fun e=>by rw [e] at h2;simp at h2)]
theorem begin_s3 (h:m.kind=1) (h1:¬ 0≤(leaveF d m.src).o) (h2:¬ 0<(othersF (leaveF d m.src).sh m.src).length):beginF bs d m=(busyF (ownF (leaveF d m.src) m.src) m 0 true,bs,[sendM m 9 m.src (lineB bs m.line)]):=by
 unfold beginF;rw [if_neg (by omega)];dsimp only;rw [if_neg h1,if_neg (by omega),if_pos (List.eq_nil_of_length_eq_zero (by omega))]
theorem begin_m1 (h:m.kind=2) (h1:0≤(leaveF d m.src).o):beginF bs d m=(busyF (leaveF d m.src) m 1 false,bs,[sendM m 5 (leaveF d m.src).o]):=by
 unfold beginF;rw [if_neg (by omega)];dsimp only;rw [if_pos h1,h];rfl
theorem begin_m2 (h:m.kind=2) (h1:¬ 0≤(leaveF d m.src).o) (h2:¬ (othersF (leaveF d m.src).sh m.src).length=0):beginF bs d m=(busyF (leaveF d m.src) m (othersF (leaveF d m.src).sh m.src).length false,bs,(othersF (leaveF d m.src).sh m.src).map (sendM m 6)):=by
 unfold beginF;rw [if_neg (by omega)];dsimp only;rw [if_neg h1,if_pos h,if_neg (fun e=>by rw [e] at h2;simp at h2)]
theorem begin_m3 (h:m.kind=2) (h1:¬ 0≤(leaveF d m.src).o) (h2:(othersF (leaveF d m.src).sh m.src).length=0):beginF bs d m=(busyF (ownF (leaveF d m.src) m.src) m 0 true,bs,[sendM m 10 m.src (lineB bs m.line)]):=by
 unfold beginF;rw [if_neg (by omega)];dsimp only;rw [if_neg h1,if_pos h,if_pos (List.eq_nil_of_length_eq_zero h2)]
theorem begin_q:(beginF bs d m).1.q=d.q:=by
 unfold beginF;dsimp only
 split
 ·rfl
 ·split
  ·rfl
  ·split
   ·split <;> rfl
   ·split <;> rfl
theorem other_b1 (h:m.kind=11) (hk:d.kind=1):otherF bs d m=({ d with o := -1,sh:=(sh0.set m.src true).set d.asks true,waits:=0,told:=true },setLn bs m.line m.bs,[sendM m 8 d.asks (lineB (setLn bs m.line m.bs) m.line)]):=by
 unfold otherF;rw [if_neg (by omega),if_pos h];dsimp only;rw [if_pos hk]
theorem other_b2 (h:m.kind=11) (hk:¬ d.kind=1):otherF bs d m=({ ownF d d.asks with waits:=0,told:=true },setLn bs m.line m.bs,[sendM m 10 d.asks (lineB (setLn bs m.line m.bs) m.line)]):=by
 unfold otherF;rw [if_neg (by omega),if_pos h];dsimp only;rw [if_neg hk]
theorem other_a1 (h:m.kind=12) (hk:d.waits=1):otherF bs d m=({ ownF d d.asks with waits:=0,told:=true },bs,[sendM m 10 d.asks (lineB bs m.line)]):=by
 unfold otherF;rw [if_neg (by omega),if_neg (by omega),if_pos hk]
theorem other_a2 (h:m.kind=12) (hk:¬ d.waits=1):otherF bs d m=({ d with sh:=d.sh.set m.src false,waits:=d.waits-1 },bs,[]):=by
 unfold otherF;rw [if_neg (by omega),if_neg (by omega),if_neg hk]
theorem other_d (h:m.kind=13):otherF bs d m=drainF d.q bs { d with busy:=false,asks:=0,kind:=0,waits:=0,told:=false }:=by
 unfold otherF;rw [if_pos h]
theorem leave_ne (h:¬ d.o=m.src):leaveF d m.src=d:=by unfold leaveF;rw [if_neg h]
theorem leave_eq (h:d.o=m.src):leaveF d m.src={ d with o := -1 }:=by unfold leaveF;rw [if_pos h]
end
theorem begin_bs {bs:List Int} {d:Ent} {m:Msg}:(beginF bs d m).2.1.length=bs.length:=by
 unfold beginF;dsimp only
 split
 ·show (if d.o=m.src then setLn bs m.line m.bs else bs).length=_
  split
  ·exact setLn_length _ _ _
  ·rfl
 ·split
  ·rfl
  ·split
   ·split <;> rfl
   ·split <;> rfl
theorem drain_bs:∀ (q:List Msg) (bs:List Int) (d:Ent),(drainF q bs d).2.1.length=bs.length
 | [],bs,d=>rfl
 | m::r,bs,d=>by
  unfold drainF
  split
  ·rfl
  ·dsimp only
   rw [drain_bs r,begin_bs]
theorem other_bs {bs:List Int} {d:Ent} {m:Msg}:(otherF bs d m).2.1.length=bs.length:=by
 unfold otherF
 split
 ·exact drain_bs _ _ _
 ·split
  ·dsimp only
   split <;> exact setLn_length _ _ _
  ·split <;> rfl
theorem chk_home {m:Msg} (h:chk m=0) (hd:m.dst=4):homeK m.kind=true∧0≤m.src∧m.src<4:=by
 unfold chk goodMsg at h
 have hx:=home_not m.kind
 have h2:isCache m.dst=false:=by rw [hd];rfl
 simp [hd,h2,isCache] at h
 exact ⟨h.1,h.2.1,by have:=h.2.2.1;omega⟩
section
variable {w:World} {F:Nat→Prop} {r c:Nat} {E:List Ent} {T:List (Nat × Value)} {N:Nat × List Deferred} {a:Act} {Q:Exit→Act→World→Prop} {ops:Array Oper} {rest:List Oper} {o:Oper}
theorem entOf_set {n k:Nat} {d:Ent} (hn:n<E.length):entOf (E.set n d) k=if k=n then d else entOf E k:=by
 unfold entOf
 simp only [List.getD,List.getElem?_set]
 by_cases h:n=k
 ·subst h;simp [hn]
 ·rw [if_neg h,if_neg (fun e=>h e.symm)]
end
theorem entOf_rep (n k:Nat):entOf (List.replicate n ent0) k=ent0:=by
 unfold entOf
 simp only [List.getD,List.getElem?_replicate]
 split <;> rfl
theorem ent0_ok (n:Int):EOk n ent0:=⟨by decide,(by intro h;cases h),by decide,(by intro m hm;cases hm),by decide,(by intro h;cases h)⟩
structure EI (n:Int) (d:Ent):Prop where
 ok:EOk n d
 apart:0≤d.o→d.sh=sh0
 idle:d.busy=false→d.waits=0∧d.told=false
theorem nb {b:Bool} {P:Prop} (h:b=true) (h':b=false):P:=by rw [h] at h';cases h'
theorem pO : -1≤(-1:Int)∧(-1:Int)<4:=by decide
theorem pW0:0≤(0:Int)∧(0:Int)≤4:=by decide
theorem pW1:0≤(1:Int)∧(1:Int)≤4:=by decide
theorem pN:¬ 0≤(-1:Int):=by decide
theorem EI.ent0 (n:Int):EI n ent0:=⟨ent0_ok n,fun h=>absurd h (by decide),fun _=>⟨rfl,rfl⟩⟩
structure ROk (n:Int) (m:Msg):Prop where
 kind:1≤m.kind∧m.kind≤3
 src:0≤m.src∧m.src<4
 line:m.line=n
theorem EOk.rest {n:Int} {d:Ent} (h:EOk n d):∀ m∈d.q,ROk n m:=fun m hm=>by
 obtain ⟨a,b,c,e,f⟩:=h.q m hm
 exact ⟨⟨a,b⟩,⟨c,e⟩,f⟩
theorem leave_ok {n:Int} {d:Ent} {r:Int} (h:EI n d):EI n (leaveF d r):=by
 unfold leaveF
 split
 ·exact ⟨⟨h.ok.asks,h.ok.told,pO,h.ok.q,h.ok.waits,h.ok.kind⟩,fun h'=>absurd h' pN,h.idle⟩
 ·exact h
theorem begin_ei {n:Int} {d:Ent} {bs:List Int} {m:Msg} (h:EI n d) (_hb:d.busy=false) (hm:ROk n m):EI n (beginF bs d m).1:=by
 have hl:=leave_ok (r:=m.src) h
 by_cases h3:m.kind=3
 ·rw [begin_put h3];exact hl
 have hk12:m.kind=1∨m.kind=2:=by have:=hm.kind;omega
 have own:EI n (busyF (ownF (leaveF d m.src) m.src) m 0 true):=⟨⟨hm.src,fun _=>rfl,(by show -1≤m.src∧m.src<4;have:=hm.src;omega),hl.ok.q,pW0,fun _=>hk12⟩,fun _=>rfl,fun h=>(by cases h)⟩
 by_cases h0:0≤(leaveF d m.src).o
 ·have:EI n (busyF (leaveF d m.src) m 1 false):=⟨⟨hm.src,fun h=>(by cases h),hl.ok.own,hl.ok.q,pW1,fun _=>hk12⟩,hl.apart,fun h=>(by cases h)⟩
  rcases hk12 with hk | hk
  ·rw [begin_s1 hk h0];exact this
  ·rw [begin_m1 hk h0];exact this
 rcases hk12 with hk | hk
 ·by_cases h1:0<(othersF (leaveF d m.src).sh m.src).length
  ·rw [begin_s2 hk h0 h1]
   exact ⟨⟨hm.src,fun _=>rfl,hl.ok.own,hl.ok.q,pW0,fun _ => .inl hk⟩,fun h=>absurd h h0,fun h=>(by cases h)⟩
  ·rw [begin_s3 hk h0 h1];exact own
 ·by_cases h1:(othersF (leaveF d m.src).sh m.src).length=0
  ·rw [begin_m3 hk h0 h1];exact own
  ·rw [begin_m2 hk h0 h1]
   have:=othK_len (leaveF d m.src).sh m.src 4
   exact ⟨⟨hm.src,fun h=>(by cases h),hl.ok.own,hl.ok.q,(by show 0≤(((othersF (leaveF d m.src).sh m.src).length:Nat):Int)∧(((othersF (leaveF d m.src).sh m.src).length:Nat):Int)≤4;unfold othersF;omega),fun _ => .inr hk⟩,fun h=>absurd h h0,fun h=>(by cases h)⟩
theorem drain_cons {m:Msg} {r:List Msg} {bs:List Int} {d:Ent}:drainF (m::r) bs d=if d.busy then ({ d with q:=m::r },bs,[]) else ((drainF r (beginF bs { d with q:=r } m).2.1 (beginF bs { d with q:=r } m).1).1,(drainF r (beginF bs { d with q:=r } m).2.1 (beginF bs { d with q:=r } m).1).2.1,(beginF bs { d with q:=r } m).2.2++(drainF r (beginF bs { d with q:=r } m).2.1 (beginF bs { d with q:=r } m).1).2.2):=by
 rw [drainF]
theorem EI.queue {n:Int} {d:Ent} (h:EI n d) (q:List Msg) (hq:∀ m∈q,ROk n m):EI n { d with q:=q }:=
 ⟨⟨h.ok.asks,h.ok.told,h.ok.own,fun m hm=>(⟨(hq m hm).kind.1,(hq m hm).kind.2,(hq m hm).src.1,(hq m hm).src.2,(hq m hm).line⟩),h.ok.waits,h.ok.kind⟩,h.apart,h.idle⟩
abbrev NoQ (d:Ent):Prop:=d.busy=false→d.q=[]
theorem drain_ei {n:Int}:∀ (q:List Msg) (bs:List Int) (d:Ent),EI n d→(∀ m∈q,ROk n m)→EI n (drainF q bs d).1∧NoQ (drainF q bs d).1∧(drainF q bs d).1.q.length≤q.length
 | [],bs,d,h,hq=>⟨h.queue [] hq,fun _=>rfl,Nat.le_refl _⟩
 | m::r,bs,d,h,hq=>by
  have hr:∀ x∈r,ROk n x:=fun x hx=>hq x (List.mem_cons_of_mem _ hx)
  rw [drain_cons]
  cases hb:d.busy with
  | true=>
   rw [if_pos rfl]
   refine ⟨?_,fun h'=>?_,Nat.le_refl _⟩
   ·have:=h.queue (m::r) hq
    rwa [hb] at this
   ·cases h'
  | false=>
   rw [if_neg (by decide)]
   have hb1:=begin_ei (bs:=bs) (m:=m) (h.queue r hr) (show ({ d with q:=r }:Ent).busy=false from hb) (hq m (List.mem_cons_self ..))
   rw [hb] at hb1
   obtain ⟨i1,i2,i3⟩:=drain_ei r (beginF bs { o:=d.o,sh:=d.sh,busy:=false,asks:=d.asks,kind:=d.kind,waits:=d.waits,told:=d.told,q:=r } m).2.1 _ hb1 hr
   exact ⟨i1,i2,by simp only [List.length_cons];omega⟩
theorem other_ei {n:Int} {d:Ent} {bs:List Int} {m:Msg} (h:EI n d) (hs:strayF d m=false) (hk:m.kind=11∨m.kind=12∨m.kind=13):EI n (otherF bs d m).1∧NoQ (otherF bs d m).1∧(otherF bs d m).1.q.length≤d.q.length:=by
 have hbusy:d.busy=true:=by
  unfold strayF at hs
  cases hb:d.busy
  ·rw [hb] at hs;simp at hs
  ·rfl
 rcases hk with hk | hk | hk
 ·by_cases h1:d.kind=1
  ·rw [other_b1 hk h1]
   exact ⟨⟨⟨h.ok.asks,fun _=>rfl,pO,h.ok.q,pW0,h.ok.kind⟩,fun h'=>absurd h' pN,fun h'=>nb hbusy h'⟩,fun h'=>nb hbusy h',Nat.le_refl _⟩
  ·rw [other_b2 hk h1]
   exact ⟨⟨⟨h.ok.asks,fun _=>rfl,(by show -1≤d.asks∧d.asks<4;have:=h.ok.asks;omega),h.ok.q,pW0,h.ok.kind⟩,fun _=>rfl,fun h'=>nb hbusy h'⟩,fun h'=>nb hbusy h',Nat.le_refl _⟩
 ·have hw:=h.ok.waits
  simp [strayF,hk] at hs
  obtain ⟨⟨-,h1⟩,⟨h2,h3⟩,h4⟩:=hs
  by_cases h1:d.waits=1
  ·rw [other_a1 hk h1]
   exact ⟨⟨⟨h.ok.asks,fun _=>rfl,(by show -1≤d.asks∧d.asks<4;have:=h.ok.asks;omega),h.ok.q,pW0,h.ok.kind⟩,fun _=>rfl,fun h'=>nb hbusy h'⟩,fun h'=>nb hbusy h',Nat.le_refl _⟩
  ·rw [other_a2 hk h1]
   exact ⟨⟨⟨h.ok.asks,fun ht=>(by have:=h.ok.told ht;omega),h.ok.own,h.ok.q,(by show 0≤d.waits-1∧d.waits-1≤4;omega),h.ok.kind⟩,fun h'=>absurd h' (by show ¬ 0≤d.o;omega),fun h'=>nb hbusy h'⟩,fun h'=>nb hbusy h',Nat.le_refl _⟩
 ·rw [other_d hk]
  have h':EI n { d with busy:=false,asks:=0,kind:=0,waits:=0,told:=false }:=⟨⟨by show (0:Int)≤0∧(0:Int)<4;decide,fun _=>rfl,h.ok.own,h.ok.q,(by show (0:Int)≤0∧(0:Int)≤4;decide),fun h=>(by cases h)⟩,h.apart,fun _=>⟨rfl,rfl⟩⟩
  exact drain_ei d.q bs _ h' h.ok.rest
theorem take_cases (h:HD) (m:Msg):(∃ e,takeH h m=(h,[],e)∧e≠0) ∨
    (chk m=0∧m.dst=4∧(0≤m.src∧m.src<4)∧m.line.toNat<h.E.length∧m.line=((m.line.toNat:Nat):Int) ∧
      ∃ x:Ent × List Int × List Msg,takeH h m=(⟨x.2.1,h.E.set m.line.toNat x.1⟩,x.2.2,0) ∧
        ((1≤m.kind∧m.kind≤3∧(entOf h.E m.line.toNat).busy=true∧x=({ entOf h.E m.line.toNat with q:=(entOf h.E m.line.toNat).q++[m] },h.bs,[])) ∨
         (1≤m.kind∧m.kind≤3∧(entOf h.E m.line.toNat).busy=false∧x=beginF h.bs (entOf h.E m.line.toNat) m) ∨
         ((m.kind=11∨m.kind=12∨m.kind=13)∧strayF (entOf h.E m.line.toNat) m=false∧x=otherF h.bs (entOf h.E m.line.toNat) m))):=by
  have hmn:=m.hn
  by_cases h0:chk m≠0∨m.dst≠4
  · exact .inl ⟨2,by unfold takeH;rw [if_pos h0],by decide⟩
  by_cases h3:(h.E.length:Int)≤m.line
  · exact .inl ⟨4,by unfold takeH;rw [if_neg h0,if_pos h3],by decide⟩
  have h1:chk m=0:=Decidable.not_not.1 fun h=>h0 (.inl h)
  have h2:m.dst=4:=Decidable.not_not.1 fun h=>h0 (.inr h)
  obtain ⟨hhome,hsrc⟩:=chk_home h1 h2
  unfold homeK at hhome
  simp only [Bool.or_eq_true,decide_eq_true_eq] at hhome
  have hT:takeH h m=if m.kind≤3 then (if (entOf h.E m.line.toNat).busy then (⟨h.bs,h.E.set m.line.toNat { entOf h.E m.line.toNat with q:=(entOf h.E m.line.toNat).q++[m] }⟩,[],0) else (⟨(beginF h.bs (entOf h.E m.line.toNat) m).2.1,h.E.set m.line.toNat (beginF h.bs (entOf h.E m.line.toNat) m).1⟩,(beginF h.bs (entOf h.E m.line.toNat) m).2.2,0)) else if strayF (entOf h.E m.line.toNat) m then (h,[],220) else (⟨(otherF h.bs (entOf h.E m.line.toNat) m).2.1,h.E.set m.line.toNat (otherF h.bs (entOf h.E m.line.toNat) m).1⟩,(otherF h.bs (entOf h.E m.line.toNat) m).2.2,0):=by
    unfold takeH
    rw [if_neg h0,if_neg h3]
    rfl
  by_cases hk:m.kind≤3
  · rw [hT,if_pos hk]
    refine .inr ⟨h1,h2,hsrc,by omega,by omega,?_⟩
    cases hb:(entOf h.E m.line.toNat).busy with
    | true=>exact ⟨({ entOf h.E m.line.toNat with q:=(entOf h.E m.line.toNat).q++[m] },h.bs,[]),by rw [if_pos rfl],.inl ⟨by omega,hk,rfl,rfl⟩⟩
    | false=>exact ⟨beginF h.bs (entOf h.E m.line.toNat) m,by rw [if_neg (by decide)],.inr (.inl ⟨by omega,hk,rfl,rfl⟩)⟩
  · rw [hT,if_neg hk]
    cases hs:strayF (entOf h.E m.line.toNat) m with
    | true=>exact .inl ⟨220,by rw [if_pos rfl],by decide⟩
    | false=>exact .inr ⟨h1,h2,hsrc,by omega,by omega,otherF h.bs (entOf h.E m.line.toNat) m,by rw [if_neg (by decide)],.inr (.inr ⟨by omega,rfl,rfl⟩)⟩
def HI (k:Nat) (h:HD):Prop:=h.E.length=h.bs.length/16∧∀ n,n<h.E.length→EI (n:Int) (entOf h.E n)∧NoQ (entOf h.E n)∧(entOf h.E n).q.length≤k
theorem HI.home0 (bs:List Int):HI 0 (home0 bs):=⟨by simp [Go.Proofs.YtpfijldkkfiooaaGreatDoor.home0],fun n _=>by
 rw [show entOf (Go.Proofs.YtpfijldkkfiooaaGreatDoor.home0 bs).E n=Go.Proofs.YtpfijldkkfiooaaGreatDoor.ent0 from entOf_rep _ _]
 exact ⟨EI.ent0 _,fun _=>rfl,Nat.le_refl _⟩⟩
theorem HI.mono {k k':Nat} {h:HD} (hi:HI k h) (hk:k≤k'):HI k' h:=⟨hi.1,fun n hn=>⟨(hi.2 n hn).1,(hi.2 n hn).2.1,Nat.le_trans (hi.2 n hn).2.2 hk⟩⟩
theorem HI.put {k k':Nat} {h:HD} (hi:HI k h) (hk:k≤k') {n:Nat} (hn:n<h.E.length) {x:Ent × List Int × List Msg} (hl:x.2.1.length=h.bs.length) (he:EI (n:Int) x.1∧NoQ x.1∧x.1.q.length≤k'):HI k' ⟨x.2.1,h.E.set n x.1⟩:=
 ⟨by show (h.E.set n x.1).length=x.2.1.length/16;rw [List.length_set,hl,hi.1],fun i hI=>by
  rw [List.length_set] at hI
  show EI (i:Int) (entOf (h.E.set n x.1) i)∧NoQ (entOf (h.E.set n x.1) i)∧(entOf (h.E.set n x.1) i).q.length≤k'
  rw [entOf_set hn]
  split
  ·rename_i h;subst h;exact he
  ·exact ⟨(hi.2 i hI).1,(hi.2 i hI).2.1,Nat.le_trans (hi.2 i hI).2.2 hk⟩⟩
theorem take_ei {k:Nat} {h:HD} {m:Msg} (hi:HI k h) (hsrc:0≤m.src∧m.src<4) (hn:m.line.toNat<h.E.length) (hmn:m.line=((m.line.toNat:Nat):Int)) {x:Ent × List Int × List Msg} (hx:(1≤m.kind∧m.kind≤3∧(entOf h.E m.line.toNat).busy=true∧x=({ entOf h.E m.line.toNat with q:=(entOf h.E m.line.toNat).q++[m] },h.bs,[])) ∨
         (1≤m.kind∧m.kind≤3∧(entOf h.E m.line.toNat).busy=false∧x=beginF h.bs (entOf h.E m.line.toNat) m) ∨
         ((m.kind=11∨m.kind=12∨m.kind=13)∧strayF (entOf h.E m.line.toNat) m=false∧x=otherF h.bs (entOf h.E m.line.toNat) m)):EI (m.line.toNat:Int) x.1∧NoQ x.1∧x.1.q.length≤k+1∧x.2.1.length=h.bs.length:=by
  obtain ⟨e1,e2,e3⟩:=hi.2 _ hn
  rcases hx with ⟨a,b,c,rfl⟩ | ⟨a,b,c,rfl⟩ | ⟨a,b,rfl⟩
  · refine ⟨e1.queue _ fun y hy=>?_,fun h'=>?_,?_,rfl⟩
    · rw [List.mem_append] at hy
      rcases hy with hy | hy
      · exact e1.ok.rest y hy
      · simp at hy;subst hy;exact ⟨⟨a,b⟩,hsrc,hmn⟩
    · rw [show (entOf h.E m.line.toNat).busy=false from h'] at c;cases c
    · show ((entOf h.E m.line.toNat).q++[m]).length≤_
      simp;omega
  · refine ⟨begin_ei e1 c ⟨⟨a,b⟩,hsrc,hmn⟩,fun h'=>?_,?_,begin_bs⟩
    · rw [begin_q];exact e2 c
    · rw [begin_q];omega
  · obtain ⟨f1,f2,f3⟩:=other_ei (bs:=h.bs) e1 b a
    exact ⟨f1,f2,by omega,other_bs⟩
theorem HI.take {k:Nat} {h:HD} (hi:HI k h) (m:Msg):HI (k+1) (takeH h m).1:=by
 rcases take_cases h m with ⟨e,he,_⟩ | ⟨_,_,hsrc,hn,hmn,x,hx,hc⟩
 ·rw [he];exact hi.mono (Nat.le_succ _)
 ·rw [hx]
  obtain ⟨f1,f2,f3,f4⟩:=take_ei hi hsrc hn hmn hc
  exact hi.put (Nat.le_succ _) hn f4 ⟨f1,f2,f3⟩
theorem begin_other {n k:Int} {d:Ent} {bs:List Int} {m:Msg} (hm:m.line=n) (h0:0≤n) (h1:0≤k) (hk:k.toNat<bs.length/16) (h:k≠n):lineB (beginF bs d m).2.1 k=lineB bs k:=by
 unfold beginF;dsimp only
 split
 ·show lineB (if d.o=m.src then setLn bs m.line m.bs else bs) k=_
  split
  ·rw [hm];exact lineB_set _ _ _ _ h0 h1 hk h
  ·rfl
 ·split
  ·rfl
  ·split
   ·split <;> rfl
   ·split <;> rfl
theorem drain_other {n k:Int} (h0:0≤n) (h1:0≤k) (h:k≠n):∀ (q:List Msg) (bs:List Int) (d:Ent),k.toNat<bs.length/16→(∀ m∈q,ROk n m)→lineB (drainF q bs d).2.1 k=lineB bs k
 | [],bs,d,hk,hq=>rfl
 | m::r,bs,d,hk,hq=>by
  rw [drain_cons]
  split
  ·rfl
  ·show lineB (drainF r (beginF bs { d with q:=r } m).2.1 (beginF bs { d with q:=r } m).1).2.1 k=_
   rw [drain_other h0 h1 h r _ _ (by rw [begin_bs];exact hk) fun x hx=>hq x (List.mem_cons_of_mem _ hx),begin_other (hq m (List.mem_cons_self ..)).line h0 h1 hk h]
theorem other_other {n k:Int} {d:Ent} {bs:List Int} {m:Msg} (hm:m.line=n) (hq:∀ m∈d.q,ROk n m) (h0:0≤n) (h1:0≤k) (hk:k.toNat<bs.length/16) (h:k≠n):lineB (otherF bs d m).2.1 k=lineB bs k:=by
 unfold otherF
 split
 ·exact drain_other h0 h1 h _ _ _ hk hq
 ·split
  ·dsimp only
   split <;> (rw [hm];exact lineB_set _ _ _ _ h0 h1 hk h)
  ·split <;> rfl
theorem take_other {j:Nat} {h:HD} (hi:HI j h) {m:Msg} {k:Int} (h0:0≤k) (hk:k.toNat<h.E.length) (hne:m.line≠k):entOf (takeH h m).1.E k.toNat=entOf h.E k.toNat∧lineB (takeH h m).1.bs k=lineB h.bs k:=by
 rcases take_cases h m with ⟨e,he,_⟩ | ⟨_,_,hsrc,hn,hmn,x,hx,hc⟩
 ·rw [he];exact ⟨rfl,rfl⟩
 ·rw [hx]
  have hmn':=m.hn
  obtain ⟨e1,e2,e3⟩:=hi.2 _ hn
  have hkb:k.toNat<h.bs.length/16:=by rw [← hi.1];exact hk
  refine ⟨?_,?_⟩
  ·show entOf (h.E.set m.line.toNat x.1) k.toNat=_
   rw [entOf_set hn,if_neg (by omega)]
  ·rcases hc with ⟨a,b,c,rfl⟩ | ⟨a,b,c,rfl⟩ | ⟨a,b,rfl⟩
   ·rfl
   ·exact begin_other rfl hmn'.1 h0 hkb (Ne.symm hne)
   ·exact other_other rfl (fun y hy=>by have:=e1.ok.rest y hy;rwa [← hmn] at this) hmn'.1 h0 hkb (Ne.symm hne)
def role (m:Msg):List (Nat × Int):=
 if m.kind=4∨m.kind=5 then [(0,m.dst)] else if m.kind=11 then [(0,m.src)] else if m.kind=6 then [(1,m.dst)] else if m.kind=12 then [(1,m.src)]
 else if m.kind=8∨m.kind=9∨m.kind=10 then [(2,m.dst)] else if m.kind=13 then [(2,m.src)] else []
def rl (n:Int) (m:Msg):List (Nat × Int):=if m.line=n then role m else []
def rolesOf (n:Int) (way:List Msg):List (Nat × Int):=way.flatMap (rl n)
def qcost (m:Msg):Nat:=if m.kind=3 then 1 else 8
def cost (m:Msg):Nat:=if m.kind=1∨m.kind=2 then 9 else if m.kind=3 then 2 else if m.kind=4∨m.kind=5∨m.kind=6∨m.kind=8∨m.kind=9∨m.kind=10 then 2 else if m.kind=7∨m.kind=11∨m.kind=12∨m.kind=13 then 1 else 0
def pend (m:Msg):Nat:=if m.kind=1∨m.kind=2∨m.kind=3∨m.kind=7∨m.kind=8∨m.kind=9∨m.kind=10 then 1 else 0
def owes (d:Ent):Bool:=d.busy && !d.told
def sumF {α:Type} (f:α→Nat) (l:List α):Nat:=(l.map f).sum
def ecost (d:Ent):Nat:=(if owes d then 2 else 0)+sumF qcost d.q
def epend (d:Ent):Nat:=(if owes d then 1 else 0)+d.q.length
structure Good (N:Nat) (m:Msg):Prop where
 line:m.line.toNat<N
 what:((1≤m.kind∧m.kind≤3)∧m.dst=4∧(0≤m.src∧m.src<4)∧(m.kind=3∨m.bs=b16z))∨((4≤m.kind∧m.kind≤10)∧(0≤m.dst∧m.dst<4))∨((11≤m.kind∧m.kind≤13)∧m.dst=4∧(0≤m.src∧m.src<4)∧(m.kind=11∨m.bs=b16z))
def Exp (d:Ent) (R:List (Nat × Int)):Prop:=
 (d.busy=false∧R=[])∨(d.busy=true∧d.told=true∧R=[(2,d.asks)])∨(d.busy=true∧d.told=false∧0≤d.o∧d.waits=1∧R=[(0,d.o)]) ∨
 (d.busy=true∧d.told=false∧d.o<0∧1≤d.waits∧∃ C:List Int,R.Perm (C.map (Prod.mk 1))∧C.Nodup∧((C.length:Nat):Int)=d.waits∧∀ c∈C,d.sh.get c=true∧c≠d.asks)
section
variable {α:Type}
theorem sumF_nil (f:α→Nat):sumF f []=0:=rfl
theorem sumF_cons (f:α→Nat) (x:α) (l:List α):sumF f (x::l)=f x+sumF f l:=by simp [sumF]
theorem sumF_app (f:α→Nat) (l l':List α):sumF f (l++l')=sumF f l+sumF f l':=by simp [sumF]
theorem sumF_perm (f:α→Nat) {l l':List α} (h:l.Perm l'):sumF f l=sumF f l':=by
 induction h with
 | nil=>rfl
 | cons x _ ih=>rw [sumF_cons,sumF_cons,ih]
 | swap x y l=>rw [sumF_cons,sumF_cons,sumF_cons,sumF_cons];omega
 | trans _ _ h1 h2=>exact h1.trans h2
theorem sumF_set (f:Ent→Nat):∀ (E:List Ent) (n:Nat) (d:Ent),n<E.length→sumF f (E.set n d)+f (entOf E n)=sumF f E+f d
 | [],n,d,h=>by simp at h
 | x::E,0,d,h=>by
  show sumF f (d::E)+f x=_
  rw [sumF_cons,sumF_cons];omega
 | x::E,n+1,d,h=>by
  have ih:=sumF_set f E n d (by simpa using h)
  show sumF f (x::E.set n d)+f (entOf E n)=_
  rw [sumF_cons,sumF_cons];omega
theorem sumF_le {f:α→Nat} {k:Nat} {l:List α} (h:∀ x∈l,f x≤k):sumF f l≤k*l.length:=by
 induction l with
 | nil=>simp [sumF_nil]
 | cons x r ih=>
  have h1:=h x (List.mem_cons_self ..)
  have h2:=ih fun y hy=>h y (List.mem_cons_of_mem _ hy)
  rw [sumF_cons,List.length_cons,Nat.mul_succ]
  omega
theorem sumF_eq {f:α→Nat} {k:Nat} {l:List α} (h:∀ x∈l,f x=k):sumF f l=k*l.length:=by
 induction l with
 | nil=>simp [sumF_nil]
 | cons x r ih=>
  have h1:=h x (List.mem_cons_self ..)
  have h2:=ih fun y hy=>h y (List.mem_cons_of_mem _ hy)
  rw [sumF_cons,List.length_cons,Nat.mul_succ]
  omega
end
theorem roles_app (n:Int) (l l':List Msg):rolesOf n (l++l')=rolesOf n l++rolesOf n l':=by simp [rolesOf]
theorem roles_cons (n:Int) (m:Msg) (l:List Msg):rolesOf n (m::l)=rl n m++rolesOf n l:=by simp [rolesOf]
theorem roles_perm (n:Int) {l l':List Msg} (h:l.Perm l'):(rolesOf n l).Perm (rolesOf n l'):=by
 induction h with
 | nil=>exact List.Perm.refl _
 | cons x _ ih=>rw [roles_cons,roles_cons];exact List.Perm.append_left _ ih
 | swap x y l=>rw [roles_cons,roles_cons,roles_cons,roles_cons,← List.append_assoc,← List.append_assoc];exact List.Perm.append_right _ List.perm_append_comm
 | trans _ _ h1 h2=>exact h1.trans h2
theorem Exp.perm {d:Ent} {R R':List (Nat × Int)} (h:Exp d R) (hp:R.Perm R'):Exp d R':=by
 rcases h with ⟨a,rfl⟩ | ⟨a,b,rfl⟩ | ⟨a,b,c,e,rfl⟩ | ⟨a,b,c,e,C,f,g⟩
 ·exact .inl ⟨a,hp.nil_eq.symm⟩
 ·exact .inr (.inl ⟨a,b,List.perm_singleton.1 hp.symm⟩)
 ·exact .inr (.inr (.inl ⟨a,b,c,e,List.perm_singleton.1 hp.symm⟩))
 ·exact .inr (.inr (.inr ⟨a,b,c,e,C,hp.symm.trans f,g⟩))
theorem Exp.idle {d:Ent} {R:List (Nat × Int)} (h:Exp d R) (hb:d.busy=false):R=[]:=by
 rcases h with ⟨a,rfl⟩ | ⟨a,_⟩ | ⟨a,_⟩ | ⟨a,_⟩
 ·rfl
 all_goals rw [hb] at a;cases a
theorem sh_get_rng {s:Sh} {c:Int} (h:s.get c=true):0≤c∧c<4:=by
 unfold Sh.get at h
 by_cases h0:c=0
 ·omega
 by_cases h1:c=1
 ·omega
 by_cases h2:c=2
 ·omega
 by_cases h3:c=3
 ·omega
 simp [h0,h1,h2,h3] at h
theorem sh_set_ne {s:Sh} {i c:Int} {x:Bool} (h:c≠i):(s.set i x).get c=s.get c:=by
 unfold Sh.set
 by_cases h0:i=0
 ·subst h0;rw [if_pos rfl];unfold Sh.get;rw [if_neg h,if_neg h]
 by_cases h1:i=1
 ·subst h1;rw [if_neg (by decide),if_pos rfl];unfold Sh.get;simp only [if_neg h]
 by_cases h2:i=2
 ·subst h2;rw [if_neg (by decide),if_neg (by decide),if_pos rfl];unfold Sh.get;simp only [if_neg h]
 by_cases h3:i=3
 ·subst h3;rw [if_neg (by decide),if_neg (by decide),if_neg (by decide),if_pos rfl];unfold Sh.get;simp only [if_neg h]
 simp only [if_neg h0,if_neg h1,if_neg h2,if_neg h3]
theorem othK_mem (sh:Sh) (r:Int):∀ (k:Nat) (c:Int),c∈othK sh r k→sh.get c=true∧c≠r∧c<k
 | 0,c,h=>by simp [othK] at h
 | k+1,c,h=>by
  unfold othK at h
  split at h
  ·rename_i hc
   rw [List.mem_append] at h
   rcases h with h | h
   ·obtain ⟨a,b,e⟩:=othK_mem sh r k c h
    exact ⟨a,b,by omega⟩
   ·simp at h
    subst h
    simp only [Bool.and_eq_true,decide_eq_true_eq] at hc
    exact ⟨hc.1,hc.2,by omega⟩
  ·obtain ⟨a,b,e⟩:=othK_mem sh r k c h
   exact ⟨a,b,by omega⟩
theorem othK_nodup (sh:Sh) (r:Int):∀ k,(othK sh r k).Nodup
 | 0=>List.nodup_nil
 | k+1=>by
  unfold othK
  split
  ·rw [List.nodup_append]
   refine ⟨othK_nodup sh r k,by simp,fun x hx y hy e=>?_⟩
   simp at hy
   have:=(othK_mem sh r k x hx).2.2
   omega
  ·exact othK_nodup sh r k
theorem nodup_sub:∀ (l m:List Int),l.Nodup→(∀ x∈l,x∈m)→l.length≤m.length
 | [],_,_,_=>Nat.zero_le _
 | x::l,m,hn,hs=>by
  have hx:x∈m:=hs x (List.mem_cons_self ..)
  have h1:=nodup_sub l (m.erase x) (List.nodup_cons.1 hn).2 fun y hy=>by
   have hne:y≠x:=fun e=>(List.nodup_cons.1 hn).1 (e ▸ hy)
   exact (List.mem_erase_of_ne hne).2 (hs y (List.mem_cons_of_mem _ hy))
  have h2:=List.length_erase_of_mem hx
  have h3:0<m.length:=List.length_pos_of_mem hx
  simp only [List.length_cons]
  omega
structure Sent (N:Nat) (n:Int) (d':Ent) (out:List Msg) (R:List (Nat × Int)) (c p:Nat):Prop where
 good:∀ m∈out,Good N m∧m.line=n
 exp:Exp d' (R++rolesOf n out)
 cost:sumF cost out+ecost d'≤c
 pend:sumF pend out+epend d'=p
theorem send_roles {n:Int} {m:Msg} {k dst:Int} {b:B16} (h:m.line=n):rl n (sendM m k dst b)=role (sendM m k dst b):=if_pos h
theorem send_good {N:Nat} {n:Int} {m:Msg} {k dst:Int} {b:B16} (h:m.line=n) (hn:n.toNat<N) (hk:4≤k∧k≤10) (hd:0≤dst∧dst<4):Good N (sendM m k dst b)∧(sendM m k dst b).line=n:=
 ⟨⟨by show m.line.toNat<N;rw [h];exact hn,.inr (.inl ⟨hk,hd⟩)⟩,h⟩
theorem one_good {N:Nat} {n:Int} {x:Msg} (h:Good N x∧x.line=n):∀ m∈[x],Good N m∧m.line=n:=fun m hm=>by
 simp at hm;subst hm;exact h
theorem begin_step {N:Nat} {n:Int} {d:Ent} {bs:List Int} {m:Msg} (h:EI n d) (hb:d.busy=false) (hm:ROk n m) (hn:n.toNat<N) :
  Sent N n (beginF bs d m).1 (beginF bs d m).2.2 [] (qcost m+sumF qcost d.q) (1+d.q.length):=by
 have hl:=leave_ok (r:=m.src) h
 have hln:=hm.line
 have hs:=hm.src
 by_cases h3:m.kind=3
 ·rw [begin_put h3]
  have ho:owes (leaveF d m.src)=false:=by show (d.busy && !d.told)=false;rw [hb];rfl
  refine ⟨one_good (send_good hln hn (by decide) hs),.inl ⟨hb,?_⟩,?_,?_⟩
  ·rw [roles_cons,send_roles hln];rfl
  ·show sumF cost [_]+((if owes (leaveF d m.src) then 2 else 0)+sumF qcost d.q)≤_
   rw [ho,sumF_cons,sumF_nil,show cost (sendM m 7 m.src)=1 from rfl,qcost,if_pos h3]
   simp
  ·show sumF pend [_]+((if owes (leaveF d m.src) then 1 else 0)+d.q.length)=_
   rw [ho,sumF_cons,sumF_nil,show pend (sendM m 7 m.src)=1 from rfl]
   simp
 have hq8:qcost m=8:=by unfold qcost;rw [if_neg h3]
 have hk12:m.kind=1∨m.kind=2:=by have:=hm.kind;omega
 -- data at once
 have told:∀ (d':Ent) (k:Int) (b:B16),d'.busy=true→d'.told=true→d'.asks=m.src→d'.q=d.q→(k=8∨k=9∨k=10)→Sent N n d' [sendM m k m.src b] [] (qcost m+sumF qcost d.q) (1+d.q.length):=by
  intro d' k b h1 h2 h3' h4 h5
  have ho:owes d'=false:=by unfold owes;rw [h2];simp
  have hc:cost (sendM m k m.src b)=2:=by
   show cost (mkM k 4 m.src m.line b m.hn)=2
   unfold cost mkM
   rcases h5 with rfl | rfl | rfl <;> simp
  have hp:pend (sendM m k m.src b)=1:=by
   show pend (mkM k 4 m.src m.line b m.hn)=1
   unfold pend mkM
   rcases h5 with rfl | rfl | rfl <;> simp
  refine ⟨one_good (send_good hln hn (by omega) hs),.inr (.inl ⟨h1,h2,?_⟩),?_,?_⟩
  ·rw [roles_cons,send_roles hln,h3']
   show _++(role (mkM k 4 m.src m.line b m.hn)++[])=_
   unfold role mkM
   rcases h5 with rfl | rfl | rfl <;> simp
  ·unfold ecost;rw [ho,h4,sumF_cons,sumF_nil,hc,hq8];simp
  ·unfold epend;rw [ho,h4,sumF_cons,sumF_nil,hp];simp
 by_cases h0:0≤(leaveF d m.src).o
 ·have hown:0≤(leaveF d m.src).o∧(leaveF d m.src).o<4:=⟨h0,hl.ok.own.2⟩
  have hob:owes (busyF (leaveF d m.src) m 1 false)=true:=rfl
  have he:Exp (busyF (leaveF d m.src) m 1 false) [(0,(leaveF d m.src).o)] := .inr (.inr (.inl ⟨rfl,rfl,h0,rfl,rfl⟩))
  have hc:∀ k,k=4∨k=5→Sent N n (busyF (leaveF d m.src) m 1 false) [sendM m k (leaveF d m.src).o] [] (qcost m+sumF qcost d.q) (1+d.q.length):=by
   intro k hk
   have hc:cost (sendM m k (leaveF d m.src).o)=2:=by
    show cost (mkM k 4 _ m.line b16z m.hn)=2
    unfold cost mkM
    rcases hk with rfl | rfl <;> simp
   have hp:pend (sendM m k (leaveF d m.src).o)=0:=by
    show pend (mkM k 4 _ m.line b16z m.hn)=0
    unfold pend mkM
    rcases hk with rfl | rfl <;> simp
   refine ⟨one_good (send_good hln hn (by omega) hown),?_,?_,?_⟩
   ·rw [roles_cons,send_roles hln]
    show Exp _ ([]++(role (mkM k 4 (leaveF d m.src).o m.line b16z m.hn)++[]))
    have:role (mkM k 4 (leaveF d m.src).o m.line b16z m.hn)=[(0,(leaveF d m.src).o)]:=by
     unfold role mkM
     rcases hk with rfl | rfl <;> simp
    rw [this]
    exact he
   ·show sumF cost [_]+((if owes (busyF (leaveF d m.src) m 1 false) then 2 else 0)+sumF qcost d.q)≤_
    rw [hob,sumF_cons,sumF_nil,hc,hq8];simp;omega
   ·show sumF pend [_]+((if owes (busyF (leaveF d m.src) m 1 false) then 1 else 0)+d.q.length)=_
    rw [hob,sumF_cons,sumF_nil,hp];simp
  rcases hk12 with hk | hk
  ·rw [begin_s1 hk h0];exact hc 4 (.inl rfl)
  ·rw [begin_m1 hk h0];exact hc 5 (.inr rfl)
 rcases hk12 with hk | hk
 ·by_cases h1:0<(othersF (leaveF d m.src).sh m.src).length
  ·rw [begin_s2 hk h0 h1];exact told _ 8 _ rfl rfl rfl rfl (by decide)
  ·rw [begin_s3 hk h0 h1];exact told _ 9 _ rfl rfl rfl rfl (by decide)
 ·by_cases h1:(othersF (leaveF d m.src).sh m.src).length=0
  ·rw [begin_m3 hk h0 h1];exact told _ 10 _ rfl rfl rfl rfl (by decide)
  ·rw [begin_m2 hk h0 h1]
   generalize hC:othersF (leaveF d m.src).sh m.src=C at h1
   have hmem:∀ c∈C,(leaveF d m.src).sh.get c=true∧c≠m.src:=fun c hc=>by
    rw [← hC] at hc
    obtain ⟨a,b,_⟩:=othK_mem _ _ _ _ hc
    exact ⟨a,b⟩
   have hnd:C.Nodup:=by rw [← hC];exact othK_nodup _ _ _
   have hlen:C.length≤4:=by rw [← hC];exact othK_len _ _ 4
   have hl3:C.length≤3:=by
    by_cases h4:C.length≤3
    ·exact h4
    exfalso
    have hin:∀ c∈C,c∈([0,1,2,3]:List Int).erase m.src:=fun c hc=>by
     have:=sh_get_rng (hmem c hc).1
     have hne:=(hmem c hc).2
     rw [List.Nodup.mem_erase_iff (by decide)]
     refine ⟨hne,?_⟩
     simp only [List.mem_cons,List.mem_nil_iff,or_false]
     omega
    have h5:(([0,1,2,3]:List Int).erase m.src).length=3:=by
     rw [List.length_erase_of_mem (by simp only [List.mem_cons,List.mem_nil_iff,or_false];omega)]
     rfl
    have:=nodup_sub C _ hnd hin
    omega
   have hob:owes (busyF (leaveF d m.src) m ((C.length:Nat):Int) false)=true:=rfl
   have hr:rolesOf n (C.map (sendM m 6))=C.map (Prod.mk 1):=by
    clear hob hl3 hlen hnd hmem h1 hC
    induction C with
    | nil=>rfl
    | cons c r ih=>
     rw [List.map_cons,roles_cons,send_roles hln,List.map_cons,ih]
     rfl
   refine ⟨fun x hx=>?_,?_,?_,?_⟩
   ·obtain ⟨c,hc,rfl⟩:=List.mem_map.1 hx
    exact send_good hln hn (by decide) (sh_get_rng (hmem c hc).1)
   ·rw [hr]
    exact .inr (.inr (.inr ⟨rfl,rfl,by show (leaveF d m.src).o<0;omega,by show (1:Int)≤((C.length:Nat):Int);omega,C,List.Perm.refl _,hnd,rfl,hmem⟩))
   ·show sumF cost (C.map (sendM m 6))+((if owes (busyF (leaveF d m.src) m ((C.length:Nat):Int) false) then 2 else 0)+sumF qcost d.q)≤_
    have:=sumF_le (f:=cost) (k:=2) (l:=C.map (sendM m 6)) fun x hx=>by
     obtain ⟨c,_,rfl⟩:=List.mem_map.1 hx
     exact Nat.le_refl _
    rw [List.length_map] at this
    rw [hob,hq8,if_pos rfl];omega
   ·show sumF pend (C.map (sendM m 6))+((if owes (busyF (leaveF d m.src) m ((C.length:Nat):Int) false) then 1 else 0)+d.q.length)=_
    have:=sumF_eq (f:=pend) (k:=0) (l:=C.map (sendM m 6)) fun x hx=>by
     obtain ⟨c,_,rfl⟩:=List.mem_map.1 hx
     rfl
    rw [hob,if_pos rfl];omega
theorem drain_out {N:Nat} {n:Int} (hn:n.toNat<N):∀ (q:List Msg) (bs:List Int) (d:Ent) (R:List (Nat × Int)),EI n d→(∀ m∈q,ROk n m)→Exp d R →
  Sent N n (drainF q bs d).1 (drainF q bs d).2.2 R ((if owes d then 2 else 0)+sumF qcost q) ((if owes d then 1 else 0)+q.length)
 | [],bs,d,R,h,hq,he=>⟨fun m hm=>(by cases hm),by show Exp _ (R++[]);rw [List.append_nil];exact he,by show sumF cost []+ecost _≤_;rw [sumF_nil];simp [ecost];exact Nat.le_refl _,by show sumF pend []+epend _=_;rw [sumF_nil];simp [epend];rfl⟩
 | m::r,bs,d,R,h,hq,he=>by
  have hr:∀ x∈r,ROk n x:=fun x hx=>hq x (List.mem_cons_of_mem _ hx)
  rw [drain_cons]
  cases hb:d.busy with
  | true=>
   rw [if_pos rfl]
   exact ⟨fun m hm=>(by cases hm),by show Exp _ (R++[]);rw [List.append_nil];have:Exp d R:=he;unfold Exp at this;rw [hb] at this;exact this,by show sumF cost []+ecost _≤_;rw [sumF_nil];simp [ecost,owes,hb],by show sumF pend []+epend _=_;rw [sumF_nil];simp [epend,owes,hb]⟩
  | false=>
   rw [if_neg (by decide)]
   obtain rfl:=he.idle hb
   have ho:owes d=false:=by unfold owes;rw [hb];rfl
   rw [ho]
   have hm:=hq m (List.mem_cons_self ..)
   have hd':=h.queue r hr
   have e1:=begin_ei (bs:=bs) (m:=m) hd' (show ({ d with q:=r }:Ent).busy=false from hb) hm
   have s1:=begin_step (N:=N) (bs:=bs) (m:=m) hd' (show ({ d with q:=r }:Ent).busy=false from hb) hm hn
   rw [hb] at e1 s1
   have hqq:(beginF bs { o:=d.o,sh:=d.sh,busy:=false,asks:=d.asks,kind:=d.kind,waits:=d.waits,told:=d.told,q:=r } m).1.q=r:=begin_q
   generalize hx:beginF bs { o:=d.o,sh:=d.sh,busy:=false,asks:=d.asks,kind:=d.kind,waits:=d.waits,told:=d.told,q:=r } m=x at *
   have s2:=drain_out hn r x.2.1 x.1 (rolesOf n x.2.2) e1 hr (by have:=s1.exp;rwa [List.nil_append] at this)
   have c1:=s1.cost
   have p1:=s1.pend
   have c2:=s2.cost
   have p2:=s2.pend
   unfold ecost at c1
   unfold epend at p1
   rw [hqq] at c1 p1
   refine ⟨fun y hy=>?_,?_,?_,?_⟩
   ·rcases List.mem_append.1 hy with hy | hy
    ·exact s1.good y hy
    ·exact s2.good y hy
   ·rw [roles_app,List.nil_append];exact s2.exp
   ·show sumF cost (x.2.2++(drainF r x.2.1 x.1).2.2)+ecost (drainF r x.2.1 x.1).1≤(if false=true then 2 else 0)+sumF qcost (m::r)
    rw [sumF_app,sumF_cons,if_neg (by decide)];dsimp only at c1;omega
   ·show sumF pend (x.2.2++(drainF r x.2.1 x.1).2.2)+epend (drainF r x.2.1 x.1).1=(if false=true then 1 else 0)+(m::r).length
    rw [sumF_app,List.length_cons,if_neg (by decide)];dsimp only at p1;omega
theorem other_step {N:Nat} {n:Int} {d:Ent} {bs:List Int} {m:Msg} {R:List (Nat × Int)} (h:EI n d) (hk:11≤m.kind∧m.kind≤13) (hln:m.line=n) (hn:n.toNat<N) (he:Exp d (role m++R)) :
  strayF d m=false∧Sent N n (otherF bs d m).1 (otherF bs d m).2.2 R (ecost d) (epend d):=by
 have hask:=h.ok.asks
 -- told behind it
 have told:∀ (d':Ent) (k:Int) (b:B16),R=[]→owes d=true→d'.busy=true→d'.told=true→d'.asks=d.asks→d'.q=d.q→(k=8∨k=10)→Sent N n d' [sendM m k d.asks b] R (ecost d) (epend d):=by
  intro d' k b hR h0 h1 h2 h3' h4 h5
  subst hR
  have ho:owes d'=false:=by unfold owes;rw [h2];simp
  have hc:cost (sendM m k d.asks b)=2:=by
   show cost (mkM k 4 d.asks m.line b m.hn)=2
   unfold cost mkM
   rcases h5 with rfl | rfl <;> simp
  have hp:pend (sendM m k d.asks b)=1:=by
   show pend (mkM k 4 d.asks m.line b m.hn)=1
   unfold pend mkM
   rcases h5 with rfl | rfl <;> simp
  refine ⟨one_good (send_good hln hn (by omega) hask),.inr (.inl ⟨h1,h2,?_⟩),?_,?_⟩
  ·rw [roles_cons,send_roles hln,h3']
   show _++(role (mkM k 4 d.asks m.line b m.hn)++[])=_
   unfold role mkM
   rcases h5 with rfl | rfl <;> simp
  ·unfold ecost;rw [ho,h4,sumF_cons,sumF_nil,hc,h0];simp
  ·unfold epend;rw [ho,h4,sumF_cons,sumF_nil,hp,h0];simp
 have hk':m.kind=11∨m.kind=12∨m.kind=13:=by omega
 rcases hk' with hk | hk | hk
 ·have hro:role m=[(0,m.src)]:=by unfold role;simp [hk]
  rw [hro] at he
  rcases he with ⟨_,e⟩ | ⟨_,_,e⟩ | ⟨a,b,c,w1,e⟩ | ⟨_,_,_,_,C,f,_⟩
  ·cases e
  ·simp at e
  ·simp at e
   obtain ⟨e1,e2⟩:=e
   have ho:owes d=true:=by unfold owes;rw [a,b];rfl
   refine ⟨by unfold strayF;simp [hk,a,w1,e1],?_⟩
   by_cases h1:d.kind=1
   ·rw [other_b1 hk h1];exact told _ 8 _ e2 ho a rfl rfl rfl (by decide)
   ·rw [other_b2 hk h1];exact told _ 10 _ e2 ho a rfl rfl rfl (by decide)
  ·have:=f.subset (List.mem_cons_self ..)
   simp at this
 ·have hro:role m=[(1,m.src)]:=by unfold role;simp [hk]
  rw [hro] at he
  rcases he with ⟨_,e⟩ | ⟨_,_,e⟩ | ⟨a,b,c,w1,e⟩ | ⟨a,b,c,w1,C,f,nd,cl,ce⟩
  ·cases e
  ·simp at e
  ·simp at e
  ·have hin:m.src∈C:=by
    have:=f.subset (List.mem_cons_self ..)
    simpa using this
   have ho:owes d=true:=by unfold owes;rw [a,b];rfl
   obtain ⟨g1,g2⟩:=ce _ hin
   refine ⟨by unfold strayF;simp [hk,a,g1,g2];omega,?_⟩
   have hR:R.Perm ((C.erase m.src).map (Prod.mk 1)):=by
    have h1:C.Perm (m.src::C.erase m.src):=List.perm_cons_erase hin
    have h2:=h1.map (Prod.mk 1)
    exact (f.trans h2).cons_inv
   have hl:(C.erase m.src).length=C.length-1:=List.length_erase_of_mem hin
   by_cases h1:d.waits=1
   ·rw [other_a1 hk h1]
    have:C.erase m.src=[]:=List.eq_nil_of_length_eq_zero (by omega)
    rw [this] at hR
    exact told _ 10 _ (List.Perm.eq_nil hR) ho a rfl rfl rfl (by decide)
   ·rw [other_a2 hk h1]
    refine ⟨fun x hx=>(by cases hx),?_,?_,?_⟩
    ·show Exp _ (R++[])
     rw [List.append_nil]
     refine .inr (.inr (.inr ⟨a,b,c,by show 1≤d.waits-1;omega,C.erase m.src,hR,nd.erase _,by show _=d.waits-1;rw [hl];have:0<C.length:=List.length_pos_of_mem hin;omega,fun x hx=>?_⟩))
     have hx':=(nd.mem_erase_iff).1 hx
     obtain ⟨g1,g2⟩:=ce x hx'.2
     exact ⟨by show (d.sh.set m.src false).get x=true;rw [sh_set_ne hx'.1];exact g1,g2⟩
    ·show sumF cost []+_≤_
     rw [sumF_nil,Nat.zero_add]
     exact Nat.le_refl _
    ·show sumF pend []+_=_
     rw [sumF_nil,Nat.zero_add]
     rfl
 ·have hro:role m=[(2,m.src)]:=by unfold role;simp [hk]
  rw [hro] at he
  rcases he with ⟨_,e⟩ | ⟨a,b,e⟩ | ⟨_,_,_,_,e⟩ | ⟨_,_,_,_,C,f,_⟩
  ·cases e
  ·simp at e
   obtain ⟨e1,rfl⟩:=e
   refine ⟨by unfold strayF;simp [hk,a,b,e1],?_⟩
   rw [other_d hk]
   have h':EI n { d with busy:=false,asks:=0,kind:=0,waits:=0,told:=false }:=⟨⟨by show (0:Int)≤0∧(0:Int)<4;decide,fun _=>rfl,h.ok.own,h.ok.q,pW0,fun h=>(by cases h)⟩,h.apart,fun _=>⟨rfl,rfl⟩⟩
   have s:=drain_out (N:=N) hn d.q bs _ [] h' h.ok.rest (.inl ⟨rfl,rfl⟩)
   have ho:owes d=false:=by unfold owes;rw [b];simp
   have c1:ecost d=(if owes { d with busy:=false,asks:=0,kind:=0,waits:=0,told:=false } then 2 else 0)+sumF qcost d.q:=by unfold ecost;rw [ho];rfl
   have p1:epend d=(if owes { d with busy:=false,asks:=0,kind:=0,waits:=0,told:=false } then 1 else 0)+d.q.length:=by unfold epend;rw [ho];rfl
   rw [c1,p1]
   exact s
  ·simp at e
  ·have:=f.subset (List.mem_cons_self ..)
   simp at this
structure Sv (T asked turns:Nat) (h:HD) (way:List Msg) (told:Nat):Prop where
 hi:HI turns h
 good:∀ m∈way,Good h.E.length m
 exp:∀ n,n<h.E.length→Exp (entOf h.E n) (rolesOf n way)
 phi:turns+(sumF cost way+sumF ecost h.E)≤T
 ask:told+(sumF pend way+sumF epend h.E)=asked
theorem Good.cost {N:Nat} {m:Msg} (h:Good N m):1≤Go.Proofs.YtpfijldkkfiooaaGreatDoor.Ch.cost m:=by
 unfold Go.Proofs.YtpfijldkkfiooaaGreatDoor.Ch.cost
 rcases h.what with ⟨a,_⟩ | ⟨a,_⟩ | ⟨a,_⟩
 all_goals (repeat' split) <;> omega
theorem rl_same {m:Msg} {n:Int} (h:m.line=n):rl n m=role m:=if_pos h
theorem rl_other {m:Msg} {n:Int} (h:¬ m.line=n):rl n m=[]:=if_neg h
theorem roles_other {n:Int} {k:Int} {out:List Msg} (h:∀ m∈out,m.line=k) (hne:¬ k=n):rolesOf n out=[]:=by
 induction out with
 | nil=>rfl
 | cons m r ih=>
  rw [roles_cons,rl_other (by rw [h m (List.mem_cons_self ..)];exact hne),ih fun x hx=>h x (List.mem_cons_of_mem _ hx)]
  rfl
theorem Good.chk {N:Nat} {m:Msg} (h:Good N m) (hd:m.dst=4):Go.Proofs.YtpfijldkkfiooaaGreatDoor.chk m=0∧(0≤m.src∧m.src<4)∧((1≤m.kind∧m.kind≤3)∨(11≤m.kind∧m.kind≤13)):=by
 rcases h.what with ⟨a,_,c,e⟩ | ⟨_,b⟩ | ⟨a,_,c,e⟩
 ·refine ⟨?_,c,.inl a⟩
  have hs:isCache m.src=true:=by unfold isCache;simp;omega
  have hh:homeK m.kind=true:=by unfold homeK;simp;omega
  have hb:bytesK m.kind=true∨m.bs=b16z:=e.imp (fun h=>by unfold bytesK;simp [h]) id
  unfold Go.Proofs.YtpfijldkkfiooaaGreatDoor.chk goodMsg
  rcases hb with hb | hb <;> simp [hd,hs,hh,hb,bs0]
 ·omega
 ·refine ⟨?_,c,.inr a⟩
  have hs:isCache m.src=true:=by unfold isCache;simp;omega
  have hh:homeK m.kind=true:=by unfold homeK;simp;omega
  have hb:bytesK m.kind=true∨m.bs=b16z:=e.imp (fun h=>by unfold bytesK;simp [h]) id
  unfold Go.Proofs.YtpfijldkkfiooaaGreatDoor.chk goodMsg
  rcases hb with hb | hb <;> simp [hd,hs,hh,hb,bs0]
theorem take_zero {h:HD} {m:Msg} (h0:chk m=0) (h1:m.dst=4) (h2:m.line.toNat<h.E.length) (h3:3<m.kind→strayF (entOf h.E m.line.toNat) m=false):(takeH h m).2.2=0:=by
 have hmn:=m.hn
 unfold takeH
 rw [if_neg (by simp [h0,h1]),if_neg (by omega)]
 dsimp only
 by_cases hk:m.kind≤3
 ·rw [if_pos hk]
  split <;> rfl
 ·rw [if_neg hk,show h.E.getD m.line.toNat ent0=entOf h.E m.line.toNat from rfl,h3 (by omega),if_neg (by decide)]
theorem role_req {m:Msg} (h:1≤m.kind∧m.kind≤3):role m=[]:=by
 unfold role
 (repeat' rw [if_neg (by omega)])
theorem cost_req {m:Msg} (h:1≤m.kind∧m.kind≤3):cost m=qcost m+1∧pend m=1:=by
 unfold cost pend qcost
 constructor
 ·by_cases h3:m.kind=3
  ·rw [if_neg (by omega),if_pos h3,if_pos h3]
  ·rw [if_pos (by omega),if_neg h3]
 ·rw [if_pos (by omega)]
theorem cost_ans {m:Msg} (h:11≤m.kind∧m.kind≤13):cost m=1∧pend m=0:=by
 unfold cost pend
 constructor
 ·rw [if_neg (by omega),if_neg (by omega),if_neg (by omega),if_pos (by omega)]
 ·rw [if_neg (by omega)]
theorem Sv.take {T asked turns:Nat} {h:HD} {way rest:List Msg} {told:Nat} {m:Msg} (s:Sv T asked turns h way told) (hp:way.Perm (m::rest)) (hd:m.dst=4) :
  (takeH h m).2.2=0∧Sv T asked (turns+1) (takeH h m).1 (rest++(takeH h m).2.1) told:=by
 have hg:=s.good m (hp.symm.subset (List.mem_cons_self ..))
 obtain ⟨hc,hsrc,hk⟩:=hg.chk hd
 have hln:=hg.line
 have hmn:=m.hn
 have hline:m.line=((m.line.toNat:Nat):Int):=by omega
 have hrest:∀ x∈rest,Good h.E.length x:=fun x hx=>s.good x (hp.symm.subset (List.mem_cons_of_mem _ hx))
 obtain ⟨e1,e2,e3⟩:=s.hi.2 _ hln
 have hexp:=(s.exp _ hln).perm (roles_perm _ hp)
 rw [roles_cons,rl_same hline] at hexp
 have hcost:=sumF_perm cost hp
 have hpend:=sumF_perm pend hp
 rw [sumF_cons] at hcost hpend
 have hphi:=s.phi
 have hask:=s.ask
 have hz:(takeH h m).2.2=0:=by
  refine take_zero hc hd hln fun h3=>?_
  exact (other_step (N:=h.E.length) (bs:=h.bs) e1 (by omega) hline (by omega) hexp).1
 refine ⟨hz,?_⟩
 have hI:=s.hi.take m
 rcases take_cases h m with ⟨e,he,hne⟩ | ⟨_,_,_,_,_,x,hx,hcs⟩
 ·rw [he] at hz;exact absurd hz hne
 ·rw [hx] at hI ⊢
  have hE:(h.E.set m.line.toNat x.1).length=h.E.length:=List.length_set
  -- what all three have in common
  have fin:Sent h.E.length (m.line.toNat:Int) x.1 x.2.2 (rolesOf (m.line.toNat:Int) rest) (cost m-1+ecost (entOf h.E m.line.toNat)) (pend m+epend (entOf h.E m.line.toNat))→1≤cost m→Sv T asked (turns+1) ⟨x.2.1,h.E.set m.line.toNat x.1⟩ (rest++x.2.2) told:=by
   intro st hc1
   refine ⟨hI,?_,?_,?_,?_⟩
   ·intro y hy
    show Good (h.E.set m.line.toNat x.1).length y
    rw [hE]
    rcases List.mem_append.1 hy with hy | hy
    ·exact hrest y hy
    ·exact (st.good y hy).1
   ·intro n hn
    show Exp (entOf (h.E.set m.line.toNat x.1) n) (rolesOf n (rest++x.2.2))
    replace hn:n<h.E.length:=by rw [← hE];exact hn
    rw [entOf_set hln,roles_app]
    by_cases hnn:n=m.line.toNat
    ·subst hnn
     rw [if_pos rfl]
     exact st.exp
    ·rw [if_neg hnn,roles_other (fun y hy=>(st.good y hy).2) (by omega),List.append_nil]
     have:=(s.exp n hn).perm (roles_perm _ hp)
     rwa [roles_cons,rl_other (by omega),List.nil_append] at this
   ·show turns+1+(sumF cost (rest++x.2.2)+sumF ecost (h.E.set m.line.toNat x.1))≤T
    have h1:=sumF_set ecost h.E m.line.toNat x.1 hln
    have h2:=st.cost
    rw [sumF_app]
    omega
   ·show told+(sumF pend (rest++x.2.2)+sumF epend (h.E.set m.line.toNat x.1))=asked
    have h1:=sumF_set epend h.E m.line.toNat x.1 hln
    have h2:=st.pend
    rw [sumF_app]
    omega
  rcases hcs with ⟨a,b,c,rfl⟩ | ⟨a,b,c,rfl⟩ | ⟨a,b,rfl⟩
  ·obtain ⟨k1,k2⟩:=cost_req ⟨a,b⟩
   rw [role_req ⟨a,b⟩,List.nil_append] at hexp
   refine fin ⟨fun y hy=>(by cases hy),?_,?_,?_⟩ (by omega)
   ·show Exp _ (_++[])
    rw [List.append_nil]
    exact hexp
   ·show sumF cost []+((if owes (entOf h.E m.line.toNat) then 2 else 0)+sumF qcost ((entOf h.E m.line.toNat).q++[m]))≤_
    rw [sumF_nil,sumF_app,sumF_cons,sumF_nil,k1]
    unfold ecost
    omega
   ·show sumF pend []+((if owes (entOf h.E m.line.toNat) then 1 else 0)+((entOf h.E m.line.toNat).q++[m]).length)=_
    rw [sumF_nil,List.length_append,k2]
    unfold epend
    simp only [List.length_cons,List.length_nil]
    omega
  ·obtain ⟨k1,k2⟩:=cost_req ⟨a,b⟩
   rw [role_req ⟨a,b⟩,List.nil_append] at hexp
   have st:=begin_step (N:=h.E.length) (bs:=h.bs) e1 c ⟨⟨a,b⟩,hsrc,hline⟩ (by omega)
   have ho:owes (entOf h.E m.line.toNat)=false:=by unfold owes;rw [c];rfl
   rw [hexp.idle c] at fin
   refine fin ⟨st.good,st.exp,?_,?_⟩ (by omega)
   ·have:=st.cost
    unfold ecost at this ⊢
    rw [ho,k1]
    simp only [Bool.false_eq_true,if_false]
    omega
   ·have:=st.pend
    unfold epend at this ⊢
    rw [ho,k2]
    simp only [Bool.false_eq_true,if_false]
    omega
  ·obtain ⟨k1,k2⟩:=cost_ans (m:=m) (by omega)
   have st:=(other_step (N:=h.E.length) (bs:=h.bs) e1 (by omega) hline (by omega) hexp).2
   refine fin ⟨st.good,st.exp,?_,?_⟩ (by omega)
   ·have:=st.cost;omega
   ·have:=st.pend;omega
structure CV where
 s:Int
 b:B16
 g:Option B16
 a:Option Bool
abbrev ER:=Int × Int × B16
def er (m:Msg):List ER:=if 4≤m.kind∧m.kind≤13∧m.kind≠7 then [(m.kind,if m.kind≤10 then m.dst else m.src,if 8≤m.kind∧m.kind≤11 then m.bs else b16z)] else []
def gt (c:Int) (m:Msg):List Bool:=if m.src=c∧(m.kind=1∨m.kind=2) then [decide (m.kind=2)] else []
def pt (c:Int) (m:Msg):List B16:=if m.src=c∧m.kind=3 then [m.bs] else []
def kt (c:Int) (m:Msg):List Unit:=if m.dst=c∧m.kind=7 then [()] else []
def wr (s:Int):Prop:=s=2∨s=3
def Hold (v:CV) (P:List B16) (cur:B16):Prop:=(wr v.s∧v.b=cur∧v.g=none)∨(v.s=0∧v.g=some cur∧P=[cur])
def Alone (M:Int) (v:Int→CV) (o:Int):Prop:=∀ c,0≤c→c<M→c≠o→(v c).s=0
def Shared (M:Int) (sh:Sh) (mem cur:B16) (v:Int→CV):Prop:=mem=cur∧∀ c,0≤c→c<M→(v c).s=0∨((v c).s=1∧(v c).b=cur∧sh.get c=true)
inductive Ph (M:Int) (d:Ent) (mem cur:B16) (v:Int→CV) (P:Int→List B16):List ER→Bool→Prop
 | idleO:d.busy=false→0≤d.o→Hold (v d.o) (P d.o) cur→Alone M v d.o→Ph M d mem cur v P [] false
 | idleS:d.busy=false→d.o<0→Shared M d.sh mem cur v→Ph M d mem cur v P [] false
 | fwd:d.busy=true→d.told=false→0≤d.o→d.waits=1→d.o≠d.asks→Hold (v d.o) (P d.o) cur→Alone M v d.o→Ph M d mem cur v P [(3+d.kind,d.o,b16z)] true
 | back:d.busy=true→d.told=false→0≤d.o→d.waits=1→d.o≠d.asks→Alone M v d.o→((v d.o).s=0∨((v d.o).s=1∧(v d.o).b=cur∧d.kind=1))→Ph M d mem cur v P [(11,d.o,cur)] true
 | drops (C:List (Int × Bool)):d.busy=true→d.told=false→d.o<0→d.kind=2→Shared M d.sh mem cur v→(C.map Prod.fst).Nodup→((C.length:Nat):Int)=d.waits→1≤d.waits →
   (∀ x∈C,d.sh.get x.1=true∧x.1≠d.asks∧(x.2=true→(v x.1).s=0))→(∀ c,d.sh.get c=true→c=d.asks∨c∈C.map Prod.fst)→Ph M d mem cur v P (C.map fun x=>(if x.2 then 12 else 6,x.1,b16z)) true
 | dataO (k:Int):d.busy=true→d.told=true→d.o=d.asks→Alone M v d.asks→((v d.asks).s=0∨((v d.asks).s=1∧(v d.asks).b=cur))→((k=9∧d.kind=1)∨(k=10∧d.kind=2))→Ph M d mem cur v P [(k,d.asks,cur)] true
 | dataS:d.busy=true→d.told=true→d.o<0→d.kind=1→Shared M d.sh mem cur v→d.sh.get d.asks=true→Ph M d mem cur v P [(8,d.asks,cur)] true
 | doneO:d.busy=true→d.told=true→d.o=d.asks→Hold (v d.asks) (P d.asks) cur→Alone M v d.asks→Ph M d mem cur v P [(13,d.asks,b16z)] false
 | doneS:d.busy=true→d.told=true→d.o<0→Shared M d.sh mem cur v→Ph M d mem cur v P [(13,d.asks,b16z)] false
def Wait (d:Ent) (sv:Bool) (c:Int):List Bool:=if sv=true∧d.asks=c then [decide (d.kind=2)] else []
structure Tok (d:Ent) (sv:Bool) (c:Int) (v:CV) (G:List Bool) (P:List B16) (A:List Unit):Prop where
 ask:G++Wait d sv c=v.a.toList
 put:(v.g=none∧P=[]∧A=[])∨(∃ b,v.g=some b∧((P=[b]∧A=[])∨(P=[]∧A=[()])))
 giv:v.g≠none→v.s=0∧v.a=none
 st:∀ w,v.a=some w→v.s=0∨(v.s=1∧w=true)
 rng:v.s=0∨v.s=1∨v.s=2∨v.s=3
structure LI (M:Int) (d:Ent) (mem cur:B16) (v:Int→CV) (R:List ER) (G:Int→List Bool) (P:Int→List B16) (A:Int→List Unit):Prop where
 ph:∃ R' sv,R.Perm R'∧Ph M d mem cur v P R' sv∧∀ c,0≤c→c<M→Tok d sv c (v c) (G c) (P c) (A c)
 shr:∀ c,d.sh.get c=true→c<M
 own:d.o<M
 ask:d.busy=true→0≤d.asks∧d.asks<M
theorem wr_ne {s:Int} (h:wr s):s≠0∧s≠1:=by unfold wr at h;omega
theorem one_nil {α:Type} {x:α} {l:List α} {o:Option α} (h:x::l=o.toList):l=[]∧o=some x:=by
 cases o with
 | none=>cases h
 | some y=>simp at h;obtain ⟨rfl,rfl⟩:=h;exact ⟨rfl,rfl⟩
theorem LI.idle {M:Int} {d:Ent} {mem cur:B16} {v:Int→CV} {R:List ER} {G:Int→List Bool} {P:Int→List B16} {A:Int→List Unit} (h:LI M d mem cur v R G P A) (hb:d.busy=false) :
  R=[]∧((0≤d.o∧Hold (v d.o) (P d.o) cur∧Alone M v d.o)∨(d.o<0∧Shared M d.sh mem cur v))∧∀ c,0≤c→c<M→Tok d false c (v c) (G c) (P c) (A c):=by
 obtain ⟨R',sv,hp,hph,ht⟩:=h.ph
 cases hph with
 | idleO a b c e=>exact ⟨hp.eq_nil,.inl ⟨b,c,e⟩,ht⟩
 | idleS a b c=>exact ⟨hp.eq_nil,.inr ⟨b,c⟩,ht⟩
 | fwd a=>rw [hb] at a;cases a
 | back a=>rw [hb] at a;cases a
 | drops C a=>rw [hb] at a;cases a
 | dataO k a=>rw [hb] at a;cases a
 | dataS a=>rw [hb] at a;cases a
 | doneO a=>rw [hb] at a;cases a
 | doneS a=>rw [hb] at a;cases a
theorem Tok.move {d d':Ent} {sv sv':Bool} {c:Int} {v:CV} {G G':List Bool} {P:List B16} {A:List Unit} (t:Tok d sv c v G P A) (h:G'++Wait d' sv' c=G++Wait d sv c):Tok d' sv' c v G' P A:=
 ⟨by rw [h];exact t.ask,t.put,t.giv,t.st,t.rng⟩
def sansF {α:Type} (F:Int→List α) (r:Int) (c:Int):List α:=if c=r then [] else F c
theorem send_er (m:Msg) (k dst:Int) (b:B16) (hk:4≤k∧k≤10∧k≠7):er (sendM m k dst b)=[(k,dst,if 8≤k∧k≤11 then b else b16z)]:=by
 show er (mkM k 4 dst m.line b m.hn)=_
 unfold er mkM
 rw [if_pos (by show 4≤k∧k≤13∧k≠7;omega)]
 show [(k,if k≤10 then dst else 4,if 8≤k∧k≤11 then b else b16z)]=_
 rw [if_pos (by omega)]
theorem othK_in {sh:Sh} {r c:Int} (h:sh.get c=true) (hc:c≠r) (h0:0≤c):∀ k:Nat,c<k→c∈othK sh r k
 | 0,hk=>by omega
 | k+1,hk=>by
  unfold othK
  by_cases e:c=k
  ·subst e
   rw [if_pos (by rw [h];simp [hc])]
   simp
  ·have:=othK_in h hc h0 k (by omega)
   split
   ·exact List.mem_append_left _ this
   ·exact this
theorem sh_set_eq {s:Sh} {i:Int} {x:Bool} (h:0≤i∧i<4):(s.set i x).get i=x:=by
 obtain rfl | rfl | rfl | rfl:i=0∨i=1∨i=2∨i=3:=by omega
 all_goals rfl
theorem sh0_none {c:Int}:sh0.get c=true→False:=by
 unfold sh0 Sh.get
 (repeat' split) <;> simp
section
variable {M:Int} {d:Ent} {bs:List Int} {cur:B16} {v:Int→CV} {G:Int→List Bool} {P:Int→List B16} {A:Int→List Unit} {m:Msg} {n:Int}
structure Snt (M n:Int) (out:List Msg):Prop where
 what:∀ y∈out,y.line=n∧(4≤y.kind∧y.kind≤10)∧y.kind≠7∧(0≤y.dst∧y.dst<M)
theorem snt_one {k dst:Int} {b:B16} (hn:m.line=n) (hk:4≤k∧k≤10∧k≠7) (hd:0≤dst∧dst<M):Snt M n [sendM m k dst b]:=⟨fun y hy=>by
 simp at hy;subst hy;exact ⟨hn,⟨hk.1,hk.2.1⟩,hk.2.2,hd⟩⟩
theorem begin_get (h:LI M d (lineB bs n) cur v [] G P A) (hM:M≤4) (hi:EI n d) (hb:d.busy=false) (hm:ROk n m) (hr:m.src<M) (hk:m.kind=1∨m.kind=2) (hG:G m.src=[decide (m.kind=2)]) :
  LI M (beginF bs d m).1 (lineB (beginF bs d m).2.1 n) cur v ((beginF bs d m).2.2.flatMap er) (sansF G m.src) P A∧Snt M n (beginF bs d m).2.2:=by
 obtain ⟨-,hph,ht⟩:=h.idle hb
 have hs:=hm.src
 have hln:=hm.line
 have tr:=ht m.src hs.1 hr
 have ha:(v m.src).a=some (decide (m.kind=2)):=by
  have:=tr.ask
  unfold Wait at this
  rw [hG,if_neg (by simp),List.append_nil] at this
  exact (one_nil this).2
 have hg:(v m.src).g=none:=by
  cases hg:(v m.src).g with
  | none=>rfl
  | some b=>have:=(tr.giv (by rw [hg];simp)).2;rw [ha] at this;cases this
 have hst:=tr.st _ ha
 -- tokens behind it
 have tok:∀ d':Ent,d'.asks=m.src→d'.kind=m.kind→∀ c,0≤c→c<M→Tok d' true c (v c) (sansF G m.src c) (P c) (A c):=by
  intro d' h1 h2 c hc hc'
  refine (ht c hc hc').move ?_
  unfold sansF Wait
  by_cases e:c=m.src
  ·subst e;rw [if_pos rfl,if_pos ⟨rfl,h1⟩,hG,h2];simp
  ·rw [if_neg e,if_neg (by rw [h1];exact fun h=>e h.2.symm)];simp
 have hl:leaveF d m.src=d:=by
  refine leave_ne fun ho=>?_
  rcases hph with ⟨h0,hH,_⟩ | ⟨h0,_⟩
  ·rw [ho] at hH
   rcases hH with ⟨hw,_⟩ | ⟨_,hg',_⟩
   ·have:=wr_ne hw;omega
   ·rw [hg] at hg';cases hg'
  ·omega
 rcases hph with ⟨h0,hH,hA⟩ | ⟨h0,hS⟩
 · -- an owner is asked
  have hne:d.o≠m.src:=fun e=>by
   rw [e] at hH
   rcases hH with ⟨hw,_⟩ | ⟨_,hg',_⟩
   ·have:=wr_ne hw;omega
   ·rw [hg] at hg';cases hg'
  have e:beginF bs d m=(busyF d m 1 false,bs,[sendM m (3+m.kind) d.o]):=by
   rcases hk with hk | hk
   ·rw [begin_s1 hk (by rw [hl];exact h0),hl,hk];rfl
   ·rw [begin_m1 hk (by rw [hl];exact h0),hl,hk];rfl
  rw [e]
  refine ⟨⟨⟨_,true,?_,Ph.fwd (d:=busyF d m 1 false) rfl rfl h0 rfl hne hH hA,tok _ rfl rfl⟩,h.shr,h.own,fun _=>⟨hs.1,hr⟩⟩,snt_one hln (by omega) ⟨h0,h.own⟩⟩
  rw [List.flatMap_cons,send_er _ _ _ _ (by omega),if_neg (by omega)]
  exact List.Perm.refl _
 ·obtain ⟨hmem,hSh⟩:=hS
  have hrs:=hSh m.src hs.1 hr
  -- the bytes at once,to write
  have give:∀ k:Int,(k=9∧m.kind=1)∨(k=10∧m.kind=2)→othersF d.sh m.src=[]→LI M (busyF (ownF d m.src) m 0 true) (lineB bs n) cur v ([sendM m k m.src (lineB bs m.line)].flatMap er) (sansF G m.src) P A∧Snt M n [sendM m k m.src (lineB bs m.line)]:=by
   intro k hk' ho
   refine ⟨⟨⟨_,true,?_,Ph.dataO (d:=busyF (ownF d m.src) m 0 true) k rfl rfl rfl (fun c hc hc' hne=>?_) (hrs.imp id fun h=>⟨h.1,h.2.1⟩) hk',tok _ rfl rfl⟩,fun c hc=>(sh0_none hc).elim,hr,fun _=>⟨hs.1,hr⟩⟩,snt_one hln (by omega) ⟨hs.1,hr⟩⟩
   ·rw [List.flatMap_cons,send_er _ _ _ _ (by omega),if_pos (by omega),hln,hmem]
    exact List.Perm.refl _
   ·rcases hSh c hc hc' with h | ⟨_,_,h⟩
    ·exact h
    ·have:=othK_in h (show c≠m.src from hne) hc 4 (by have:=(sh_get_rng h).2;omega)
     rw [show othK d.sh m.src 4=[] from ho] at this
     cases this
  have hno:¬ 0≤(leaveF d m.src).o:=by rw [hl];omega
  rcases hk with hk | hk
  ·by_cases ho:0<(othersF d.sh m.src).length
   ·rw [begin_s2 hk hno (by rw [hl];exact ho),hl]
    refine ⟨⟨⟨_,true,?_,Ph.dataS (d:=busyF { d with sh:=d.sh.set m.src true } m 0 true) rfl rfl h0 hk ⟨hmem,fun c hc hc'=>?_⟩ (sh_set_eq hs),tok _ rfl rfl⟩,fun c hc=>?_,h.own,fun _=>⟨hs.1,hr⟩⟩,snt_one hln (by decide) ⟨hs.1,hr⟩⟩
    ·rw [List.flatMap_cons,send_er _ _ _ _ (by decide),if_pos (by decide),hln,hmem]
     exact List.Perm.refl _
    ·refine (hSh c hc hc').imp id fun ⟨h1,h2,h3⟩=>⟨h1,h2,?_⟩
     show (d.sh.set m.src true).get c=true
     by_cases e:c=m.src
     ·subst e;exact sh_set_eq hs
     ·rw [sh_set_ne e];exact h3
    ·by_cases e:c=m.src
     ·subst e;exact hr
     ·have hc':(d.sh.set m.src true).get c=true:=hc
      rw [sh_set_ne e] at hc'
      exact h.shr c hc'
   ·rw [begin_s3 hk hno (by rw [hl];exact ho),hl]
    exact give 9 (.inl ⟨rfl,hk⟩) (List.eq_nil_of_length_eq_zero (by omega))
  ·by_cases ho:(othersF d.sh m.src).length=0
   ·rw [begin_m3 hk hno (by rw [hl];exact ho),hl]
    exact give 10 (.inr ⟨rfl,hk⟩) (List.eq_nil_of_length_eq_zero ho)
   ·rw [begin_m2 hk hno (by rw [hl];exact ho),hl]
    have hmm:((othersF d.sh m.src).map fun c=>(c,false)).map Prod.fst=othersF d.sh m.src:=by rw [List.map_map];exact List.map_id _
    refine ⟨⟨⟨_,true,?_,Ph.drops (d:=busyF d m ((othersF d.sh m.src).length:Int) false) ((othersF d.sh m.src).map fun c=>(c,false)) rfl rfl h0 hk ⟨hmem,hSh⟩ (by rw [hmm];exact othK_nodup _ _ _) (by rw [List.length_map];rfl) (by show (1:Int)≤((othersF d.sh m.src).length:Int);omega) (fun x hx=>?_) (fun c hc=>?_),tok _ rfl rfl⟩,h.shr,h.own,fun _=>⟨hs.1,hr⟩⟩,⟨fun y hy=>?_⟩⟩
    ·have:((othersF d.sh m.src).map (sendM m 6)).flatMap er=((othersF d.sh m.src).map fun c=>(c,false)).map fun x=>((if x.2 then 12 else 6:Int),x.1,b16z):=by
      generalize othersF d.sh m.src=C
      induction C with
      | nil=>rfl
      | cons c r ih=>rw [List.map_cons,List.flatMap_cons,ih,send_er _ _ _ _ (by decide),if_neg (by decide)];rfl
     rw [this]
    ·obtain ⟨c,hc,rfl⟩:=List.mem_map.1 hx
     obtain ⟨h1,h2,_⟩:=othK_mem _ _ _ _ hc
     exact ⟨h1,h2,fun h=>by cases h⟩
    ·by_cases e:c=m.src
     ·exact .inl e
     ·rw [hmm]
      have:=sh_get_rng hc
      exact .inr (othK_in hc e this.1 4 (by omega))
    ·obtain ⟨c,hc,rfl⟩:=List.mem_map.1 hy
     obtain ⟨h1,h2,_⟩:=othK_mem _ _ _ _ hc
     exact ⟨hln,⟨by show (4:Int)≤6;decide,by show (6:Int)≤10;decide⟩,by show (6:Int)≠7;decide,(sh_get_rng h1).1,h.shr c h1⟩
end
theorem Ph.q {M:Int} {d:Ent} {mem cur:B16} {v:Int→CV} {P:Int→List B16} {R:List ER} {sv:Bool} (h:Ph M d mem cur v P R sv) (q:List Msg):Ph M { d with q:=q } mem cur v P R sv:=by
 cases h with
 | idleO a b c e=>exact .idleO a b c e
 | idleS a b c=>exact .idleS a b c
 | fwd a b c e f g i=>exact Ph.fwd (d:={ d with q:=q }) a b c e f g i
 | back a b c e f g i=>exact Ph.back (d:={ d with q:=q }) a b c e f g i
 | drops C a b c e f g i j k l=>exact Ph.drops (d:={ d with q:=q }) C a b c e f g i j k l
 | dataO k a b c e f g=>exact Ph.dataO (d:={ d with q:=q }) k a b c e f g
 | dataS a b c e f g=>exact Ph.dataS (d:={ d with q:=q }) a b c e f g
 | doneO a b c e f=>exact Ph.doneO (d:={ d with q:=q }) a b c e f
 | doneS a b c e=>exact Ph.doneS (d:={ d with q:=q }) a b c e
theorem LI.q {M:Int} {d:Ent} {mem cur:B16} {v:Int→CV} {R:List ER} {G:Int→List Bool} {P:Int→List B16} {A:Int→List Unit} (h:LI M d mem cur v R G P A) (q:List Msg):LI M { d with q:=q } mem cur v R G P A:=by
 obtain ⟨R',sv,hp,hph,ht⟩:=h.ph
 exact ⟨⟨R',sv,hp,hph.q q,fun c h1 h2=>(ht c h1 h2).move rfl⟩,h.shr,h.own,h.ask⟩
theorem perm_one {α:Type} {l:List α} {o:Option α} {w:List α} (hp:l.Perm w) (h:l=o.toList):w=o.toList:=by
 subst h
 cases o with
 | none=>exact hp.nil_eq.symm
 | some x=>exact List.perm_singleton.1 hp.symm
theorem LI.perm {M:Int} {d:Ent} {mem cur:B16} {v:Int→CV} {R R':List ER} {G G':Int→List Bool} {P P':Int→List B16} {A A':Int→List Unit} (h:LI M d mem cur v R G P A) (hR:R.Perm R') (hG:∀ c,(G c).Perm (G' c)) (hP:∀ c,(P c).Perm (P' c)) (hA:∀ c,(A c).Perm (A' c)):LI M d mem cur v R' G' P' A':=by
 obtain ⟨R9,sv,hp,hph,ht⟩:=h.ph
 have pe:∀ c b,P c=[b]→P' c=[b]:=fun c b e=>List.perm_singleton.1 ((hP c).symm.trans (by rw [e]))
 have pn:∀ c,P c=[]→P' c=[]:=fun c e=>((by rw [← e];exact hP c:([]:List B16).Perm (P' c))).nil_eq.symm
 have an:∀ c,A c=[]→A' c=[]:=fun c e=>((by rw [← e];exact hA c:([]:List Unit).Perm (A' c))).nil_eq.symm
 have ae:∀ c,A c=[()]→A' c=[()]:=fun c e=>List.perm_singleton.1 ((hA c).symm.trans (by rw [e]))
 have hold:∀ c cu,Hold (v c) (P c) cu→Hold (v c) (P' c) cu:=fun c cu hh=>hh.imp id fun ⟨a,b,e⟩=>⟨a,b,pe c _ e⟩
 have ph':Ph M d mem cur v P' R9 sv:=by
  cases hph with
  | idleO a b c e=>exact .idleO a b (hold _ _ c) e
  | idleS a b c=>exact .idleS a b c
  | fwd a b c e f g i=>exact .fwd a b c e f (hold _ _ g) i
  | back a b c e f g i=>exact .back a b c e f g i
  | drops C a b c e f g i j k l=>exact .drops C a b c e f g i j k l
  | dataO k a b c e f g=>exact .dataO k a b c e f g
  | dataS a b c e f g=>exact .dataS a b c e f g
  | doneO a b c e f=>exact .doneO a b c (hold _ _ e) f
  | doneS a b c e=>exact .doneS a b c e
 refine ⟨⟨R9,sv,hR.symm.trans hp,ph',fun c h1 h2=>?_⟩,h.shr,h.own,h.ask⟩
 have t:=ht c h1 h2
 refine ⟨perm_one (List.Perm.append_right _ (hG c)) t.ask,?_,t.giv,t.st,t.rng⟩
 rcases t.put with ⟨a,b,e⟩ | ⟨b,a,⟨e,f⟩ | ⟨e,f⟩⟩
 ·exact .inl ⟨a,pn _ b,an _ e⟩
 ·exact .inr ⟨b,a,.inl ⟨pe _ _ e,an _ f⟩⟩
 ·exact .inr ⟨b,a,.inr ⟨pn _ e,ae _ f⟩⟩
section
variable {M:Int} {d:Ent} {bs:List Int} {cur:B16} {v:Int→CV} {G:Int→List Bool} {P:Int→List B16} {A:Int→List Unit} {m:Msg} {n:Int}
theorem er_ack (m:Msg) (r:Int):er (sendM m 7 r)=[]:=by
 show er (mkM 7 4 r m.line b16z m.hn)=[]
 unfold er mkM
 rw [if_neg (by show ¬ (4≤(7:Int)∧(7:Int)≤13∧(7:Int)≠7);decide)]
theorem begin_putL (h:LI M d (lineB bs n) cur v [] G P A) (hb:d.busy=false) (hm:ROk n m) (hr:m.src<M) (hk:m.kind=3) (hP:P m.src=[m.bs]) (h0:0≤n) (hn:n.toNat<bs.length/16) :
  LI M (beginF bs d m).1 (lineB (beginF bs d m).2.1 n) cur v ((beginF bs d m).2.2.flatMap er) G (sansF P m.src) (fun c=>A c++(beginF bs d m).2.2.flatMap (kt c))∧(∀ y∈(beginF bs d m).2.2,y.line=n∧y.kind=7∧y.dst=m.src)∧(beginF bs d m).2.2≠[]:=by
 obtain ⟨-,hph,ht⟩:=h.idle hb
 have hs:=hm.src
 have hln:=hm.line
 have tr:=ht m.src hs.1 hr
 obtain ⟨b9,hg,hPA⟩:∃ b,(v m.src).g=some b∧((P m.src=[b]∧A m.src=[])∨(P m.src=[]∧A m.src=[()])):=by
  rcases tr.put with ⟨_,a,_⟩ | h
  ·rw [hP] at a;cases a
  ·exact h
 obtain ⟨hb9,hA9⟩:b9=m.bs∧A m.src=[]:=by
  rcases hPA with ⟨a,b⟩ | ⟨a,_⟩
  ·rw [hP] at a;simp at a;exact ⟨a.symm,b⟩
  ·rw [hP] at a;cases a
 subst hb9
 have hs0:=(tr.giv (by rw [hg];simp)).1
 rw [begin_put hk]
 have hkt:∀ c,[sendM m 7 m.src].flatMap (kt c)=if c=m.src then [()] else []:=fun c=>by
  show kt c (mkM 7 4 m.src m.line b16z m.hn)++[]=_
  unfold kt mkM
  by_cases e:c=m.src
  ·subst e;simp
  ·simp [e,Ne.symm e]
 have her:[sendM m 7 m.src].flatMap er=[]:=by rw [List.flatMap_cons,er_ack];rfl
 have tok:∀ d':Ent,∀ c,0≤c→c<M→Tok d' false c (v c) (G c) (sansF P m.src c) (A c++[sendM m 7 m.src].flatMap (kt c)):=fun d' c h1 h2=>by
  have t:=ht c h1 h2
  rw [hkt]
  refine ⟨?_,?_,t.giv,t.st,t.rng⟩
  ·have:=t.ask
   unfold Wait at this ⊢
   rw [if_neg (by simp)] at this ⊢
   exact this
  ·unfold sansF
   by_cases e:c=m.src
   ·subst e
    rw [if_pos rfl,if_pos rfl,hA9]
    exact .inr ⟨_,hg,.inr ⟨rfl,rfl⟩⟩
   ·rw [if_neg e,if_neg e,List.append_nil]
    exact t.put
 refine ⟨⟨⟨[],false,by rw [her],?_,fun c h1 h2=>tok _ c h1 h2⟩,h.shr,?_,fun h'=>by rw [show d.busy=true from h'] at hb;cases hb⟩,fun y hy=>?_,by simp⟩
 ·rcases hph with ⟨o0,hH,hA⟩ | ⟨o0,hS⟩
  ·by_cases ho:d.o=m.src
   ·rw [leave_eq ho]
    refine Ph.idleS (d:={ d with o := -1 }) hb (show (-1:Int)<0 by decide) ⟨?_,fun c h1 h2 => .inl ?_⟩
    ·show lineB (if d.o=m.src then setLn bs m.line m.bs else bs) n=cur
     rw [if_pos ho,hln,lineB_same _ _ _ h0 hn]
     rw [ho] at hH
     rcases hH with ⟨hw,_⟩ | ⟨_,hg',_⟩
     ·have:=wr_ne hw;omega
     ·rw [hg] at hg';simpa using hg'
    ·by_cases e:c=m.src
     ·subst e;exact hs0
     ·exact hA c h1 h2 (by rw [ho];exact e)
   ·rw [leave_ne ho]
    refine Ph.idleO hb o0 ?_ hA
    show Hold (v d.o) (if d.o=m.src then [] else P d.o) cur
    rw [if_neg ho]
    exact hH
  ·have ho:¬ d.o=m.src:=by omega
   rw [leave_ne ho]
   refine Ph.idleS hb o0 ?_
   show Shared M d.sh (lineB (if d.o=m.src then setLn bs m.line m.bs else bs) n) cur v
   rw [if_neg ho]
   exact hS
 ·show (if d.o=m.src then (-1:Int) else d.o)<M
  split
  ·omega
  ·exact h.own
 ·simp at hy;subst hy;exact ⟨hln,rfl,rfl⟩
theorem gt_get {r:Int} (hk:m.kind=1∨m.kind=2) (h:m.src=r):gt r m=[decide (m.kind=2)]:=by unfold gt;rw [if_pos ⟨h,hk⟩]
theorem gt_no {r:Int} (h:¬ (m.src=r∧(m.kind=1∨m.kind=2))):gt r m=[]:=if_neg h
theorem pt_put {r:Int} (hk:m.kind=3) (h:m.src=r):pt r m=[m.bs]:=by unfold pt;rw [if_pos ⟨h,hk⟩]
theorem pt_no {r:Int} (h:¬ (m.src=r∧m.kind=3)):pt r m=[]:=if_neg h
theorem kt_no {r:Int} (h:m.kind≠7):kt r m=[]:=if_neg fun e=>h e.2
theorem begin_any {GW:Int→List Bool} {PW:Int→List B16} {q:List Msg} (h:LI M d (lineB bs n) cur v [] (fun c=>GW c++(gt c m++q.flatMap (gt c))) (fun c=>PW c++(pt c m++q.flatMap (pt c))) A) (hM:M≤4) (hi:EI n d) (hb:d.busy=false) (hm:ROk n m) (hr:m.src<M) (h0:0≤n) (hn:n.toNat<bs.length/16) :
  LI M (beginF bs d m).1 (lineB (beginF bs d m).2.1 n) cur v ((beginF bs d m).2.2.flatMap er) (fun c=>GW c++q.flatMap (gt c)) (fun c=>PW c++q.flatMap (pt c)) (fun c=>A c++(beginF bs d m).2.2.flatMap (kt c))∧∀ y∈(beginF bs d m).2.2,y.line=n∧(4≤y.kind∧y.kind≤10)∧(0≤y.dst∧y.dst<M):=by
 have hs:=hm.src
 have tr:=(h.idle hb).2.2 m.src hs.1 hr
 by_cases hk:m.kind=3
 ·have hPl:PW m.src++(pt m.src m++q.flatMap (pt m.src))=[m.bs]∧PW m.src=[]∧q.flatMap (pt m.src)=[]:=by
   have hp:=tr.put
   rw [pt_put hk rfl] at hp ⊢
   have key:∀ b,PW m.src++([m.bs]++q.flatMap (pt m.src))=[b]→PW m.src=[]∧q.flatMap (pt m.src)=[]:=by
    intro b hb
    have hl:=congrArg List.length hb
    simp only [List.length_append,List.length_cons,List.length_nil] at hl
    exact ⟨List.eq_nil_of_length_eq_zero (by omega),List.eq_nil_of_length_eq_zero (by omega)⟩
   rcases hp with ⟨_,a,_⟩ | ⟨b,_,⟨a,_⟩ | ⟨a,_⟩⟩
   ·simp at a
   ·obtain ⟨k1,k2⟩:=key b a
    rw [k1,k2];exact ⟨rfl,rfl,rfl⟩
   ·simp at a
  obtain ⟨hL,hW,hY⟩:=begin_putL h hb hm hr hk hPl.1 h0 hn
  refine ⟨hL.perm (List.Perm.refl _) (fun c=>?_) (fun c=>?_) (fun c=>List.Perm.refl _),fun y hy=>?_⟩
  ·rw [gt_no (by rintro ⟨_,h | h⟩ <;> omega)];exact List.Perm.refl _
  ·unfold sansF
   by_cases e:c=m.src
   ·subst e;rw [if_pos rfl,hPl.2.1,hPl.2.2];exact List.Perm.refl _
   ·rw [if_neg e];show (PW c++(pt c m++q.flatMap (pt c))).Perm _;rw [pt_no (fun h=>e h.1.symm)];exact List.Perm.refl _
  ·obtain ⟨a,b,c⟩:=hW y hy
   exact ⟨a,by omega,by omega⟩
 ·have hk':m.kind=1∨m.kind=2:=by have:=hm.kind;omega
  have hGl:GW m.src++(gt m.src m++q.flatMap (gt m.src))=[decide (m.kind=2)]∧GW m.src=[]∧q.flatMap (gt m.src)=[]:=by
   have ha:=tr.ask
   unfold Wait at ha
   rw [if_neg (by simp),List.append_nil,gt_get hk' rfl] at ha
   rw [gt_get hk' rfl]
   have hl:=congrArg List.length ha
   have hle:(v m.src).a.toList.length≤1:=by cases (v m.src).a <;> simp
   simp only [List.length_append,List.length_cons,List.length_nil] at hl
   have k1:GW m.src=[]:=List.eq_nil_of_length_eq_zero (by omega)
   have k2:q.flatMap (gt m.src)=[]:=List.eq_nil_of_length_eq_zero (by omega)
   rw [k1,k2];exact ⟨rfl,rfl,rfl⟩
  obtain ⟨hL,hS⟩:=begin_get h hM hi hb hm hr hk' hGl.1
  refine ⟨hL.perm (List.Perm.refl _) (fun c=>?_) (fun c=>?_) (fun c=>?_),fun y hy=>?_⟩
  ·unfold sansF
   by_cases e:c=m.src
   ·subst e;rw [if_pos rfl,hGl.2.1,hGl.2.2];exact List.Perm.refl _
   ·rw [if_neg e];show (GW c++(gt c m++q.flatMap (gt c))).Perm _;rw [gt_no (fun h=>e h.1.symm)];exact List.Perm.refl _
  ·rw [pt_no (fun h=>hk h.2)];exact List.Perm.refl _
  ·have:(beginF bs d m).2.2.flatMap (kt c)=[]:=by
    rw [List.flatMap_eq_nil_iff]
    exact fun y hy=>kt_no (hS.what y hy).2.2.1
   rw [this,List.append_nil]
  ·obtain ⟨a,b,_,e⟩:=hS.what y hy
   exact ⟨a,b,e⟩
theorem drain_li {GW:Int→List Bool} {PW:Int→List B16} (hM:M≤4) (h0:0≤n):∀ (q:List Msg) (bs:List Int) (d:Ent) (R:List ER) (A:Int→List Unit),LI M d (lineB bs n) cur v R (fun c=>GW c++q.flatMap (gt c)) (fun c=>PW c++q.flatMap (pt c)) A→EI n d→(∀ m∈q,ROk n m∧m.src<M)→n.toNat<bs.length/16 →
  LI M (drainF q bs d).1 (lineB (drainF q bs d).2.1 n) cur v (R++(drainF q bs d).2.2.flatMap er) (fun c=>GW c++(drainF q bs d).1.q.flatMap (gt c)) (fun c=>PW c++(drainF q bs d).1.q.flatMap (pt c)) (fun c=>A c++(drainF q bs d).2.2.flatMap (kt c))∧(∀ y∈(drainF q bs d).2.2,y.line=n∧(4≤y.kind∧y.kind≤10)∧(0≤y.dst∧y.dst<M))∧∀ m∈(drainF q bs d).1.q,m.src<M
 | [],bs,d,R,A,h,hi,hq,hn=>by
  refine ⟨?_,(fun y hy=>by cases hy),(fun y hy=>by cases hy)⟩
  have:=h.q []
  refine this.perm (by show R.Perm (R++[]);rw [List.append_nil]) (fun c=>List.Perm.refl _) (fun c=>List.Perm.refl _) (fun c=>by show (A c).Perm (A c++[]);rw [List.append_nil])
 | m::r,bs,d,R,A,h,hi,hq,hn=>by
  have hr:∀ x∈r,ROk n x∧x.src<M:=fun x hx=>hq x (List.mem_cons_of_mem _ hx)
  rw [drain_cons]
  by_cases hb:d.busy=true
  ·rw [if_pos hb]
   refine ⟨?_,(fun y hy=>by cases hy),fun y hy=>(hq y hy).2⟩
   exact (h.q (m::r)).perm (by show R.Perm (R++[]);rw [List.append_nil]) (fun c=>List.Perm.refl _) (fun c=>List.Perm.refl _) (fun c=>by show (A c).Perm (A c++[]);rw [List.append_nil])
  ·rw [if_neg hb]
   have hb':d.busy=false:=by simpa using hb
   obtain rfl:=(h.idle hb').1
   obtain ⟨hm,hms⟩:=hq m (List.mem_cons_self ..)
   have hd':=hi.queue r fun x hx=>(hr x hx).1
   have h':LI M { d with q:=r } (lineB bs n) cur v [] (fun c=>GW c++(gt c m++r.flatMap (gt c))) (fun c=>PW c++(pt c m++r.flatMap (pt c))) A:=(h.q r).perm (List.Perm.refl _) (fun c=>by rw [List.flatMap_cons]) (fun c=>by rw [List.flatMap_cons]) (fun c=>List.Perm.refl _)
   obtain ⟨s1,s2⟩:=begin_any h' hM hd' hb' hm hms h0 hn
   have e1:=begin_ei (bs:=bs) (m:=m) hd' hb' hm
   have hqq:(beginF bs { d with q:=r } m).1.q=r:=begin_q
   have hbl:(beginF bs { d with q:=r } m).2.1.length=bs.length:=begin_bs
   generalize beginF bs { d with q:=r } m=x at *
   obtain ⟨t1,t2,t3⟩:=drain_li hM h0 r x.2.1 x.1 (x.2.2.flatMap er) (fun c=>A c++x.2.2.flatMap (kt c)) s1 e1 hr (by rw [hbl];exact hn)
   refine ⟨t1.perm ?_ (fun c=>List.Perm.refl _) (fun c=>List.Perm.refl _) (fun c=>?_),fun y hy=>?_,t3⟩
   ·rw [List.nil_append,List.flatMap_append]
   ·rw [List.flatMap_append,List.append_assoc]
   ·rcases List.mem_append.1 hy with hy | hy
    ·exact s2 y hy
    ·exact t2 y hy
end
section
variable {M:Int} {d:Ent} {bs:List Int} {cur:B16} {v:Int→CV} {G:Int→List Bool} {P:Int→List B16} {A:Int→List Unit} {m:Msg} {n:Int} {R:List ER}
theorem er_one {k c:Int} {b:B16} (hk:m.kind=k) (h1:4≤k∧k≤13∧k≠7) (hc:(if k≤10 then m.dst else m.src)=c) (hb:(if 8≤k∧k≤11 then m.bs else b16z)=b):er m=[(k,c,b)]:=by
 unfold er
 rw [hk,if_pos h1,hc,hb]
theorem perm_cons_one {α:Type} {x y:α} {l:List α} (h:(x::l).Perm [y]):x=y∧l=[]:=by
 have:=List.perm_singleton.1 h
 simp at this
 exact this
theorem nodup_of_map {α β:Type} {f:α→β} {l:List α} (h:(l.map f).Nodup):l.Nodup:=by
 induction l with
 | nil=>exact List.nodup_nil
 | cons x r ih=>
  rw [List.map_cons,List.nodup_cons] at h
  rw [List.nodup_cons]
  exact ⟨fun hx=>h.1 (List.mem_map.2 ⟨x,hx,rfl⟩),ih h.2⟩
theorem nodup_fst {C:List (Int × Bool)} (h:(C.map Prod.fst).Nodup) {x y:Int × Bool} (hx:x∈C) (hy:y∈C) (e:x.1=y.1):x=y:=by
 induction C with
 | nil=>cases hx
 | cons z r ih=>
  rw [List.map_cons,List.nodup_cons] at h
  rcases List.mem_cons.1 hx with rfl | hx
  ·rcases List.mem_cons.1 hy with rfl | hy
   ·rfl
   ·exact absurd (List.mem_map.2 ⟨y,hy,e.symm⟩) h.1
  ·rcases List.mem_cons.1 hy with hy | hy
   ·rw [hy] at e;exact absurd (List.mem_map.2 ⟨x,hx,e⟩) h.1
   ·exact ih h.2 hx hy
theorem other_li {GW:Int→List Bool} {PW:Int→List B16} (h:LI M d (lineB bs n) cur v (er m++R) (fun c=>GW c++d.q.flatMap (gt c)) (fun c=>PW c++d.q.flatMap (pt c)) A) (hM:M≤4) (hi:EI n d) (hq:∀ m∈d.q,m.src<M) (hk:11≤m.kind∧m.kind≤13) (hm:m.line=n) (h0:0≤n) (hn:n.toNat<bs.length/16) :
  LI M (otherF bs d m).1 (lineB (otherF bs d m).2.1 n) cur v (R++(otherF bs d m).2.2.flatMap er) (fun c=>GW c++(otherF bs d m).1.q.flatMap (gt c)) (fun c=>PW c++(otherF bs d m).1.q.flatMap (pt c)) (fun c=>A c++(otherF bs d m).2.2.flatMap (kt c))∧(∀ y∈(otherF bs d m).2.2,y.line=n∧(4≤y.kind∧y.kind≤10)∧(0≤y.dst∧y.dst<M))∧∀ z∈(otherF bs d m).1.q,z.src<M:=by
 obtain ⟨R',sv,hp,hph,ht⟩:=h.ph
 have one:∀ (k dst:Int) (b:B16),4≤k∧k≤10∧k≠7→(0≤dst∧dst<M)→∀ y∈[sendM m k dst b],y.line=n∧(4≤y.kind∧y.kind≤10)∧(0≤y.dst∧y.dst<M):=by
  intro k dst b h1 h2 y hy
  simp at hy;subst hy
  exact ⟨hm,⟨h1.1,h1.2.1⟩,h2⟩
 have nok:∀ (k dst:Int) (b:B16),k≠7→∀ c,A c=A c++[sendM m k dst b].flatMap (kt c):=by
  intro k dst b h c
  rw [List.flatMap_cons,kt_no (show (sendM m k dst b).kind≠7 from h)]
  simp
 have tok:∀ d':Ent,d'.asks=d.asks→d'.kind=d.kind→d'.q=d.q→∀ (out:List Msg),(∀ c,A c=A c++out.flatMap (kt c))→∀ c,0≤c→c<M→Tok d' sv c (v c) (GW c++d'.q.flatMap (gt c)) (PW c++d'.q.flatMap (pt c)) (A c++out.flatMap (kt c)):=by
  intro d' h1 h2 h3 out h4 c hc hc'
  rw [← h4,h3]
  exact (ht c hc hc').move (by unfold Wait;rw [h1,h2])
 have hk':m.kind=11∨m.kind=12∨m.kind=13:=by omega
 rcases hk' with hk | hk | hk
 ·rw [er_one hk (by decide) (if_neg (by decide)) (if_pos (by decide))] at hp
  cases hph with
  | idleO a=>exact absurd hp.length_eq (by simp)
  | idleS a=>exact absurd hp.length_eq (by simp)
  | fwd a b c e f g i=>
   have:=(perm_cons_one hp).1
   simp only [Prod.mk.injEq] at this
   have hkd:=hi.ok.kind a
   omega
  | back a b c e f g i=>
   obtain ⟨he,rfl⟩:=perm_cons_one hp
   simp only [Prod.mk.injEq] at he
   obtain ⟨-,hsrc,hbs⟩:=he
   have hask:=h.ask a
   have hown:=h.own
   have hkd:=hi.ok.kind a
   have hmem:lineB (setLn bs m.line m.bs) n=cur:=by rw [hm,lineB_same _ _ _ h0 hn,hbs]
   by_cases hk1:d.kind=1
   ·rw [other_b1 hk hk1]
    refine ⟨⟨⟨_,true,?_,Ph.dataS (d:={ d with o := -1,sh:=(sh0.set m.src true).set d.asks true,waits:=0,told:=true }) a rfl (show (-1:Int)<0 by decide) hk1 ⟨hmem,fun c h1 h2=>?_⟩ (sh_set_eq (by omega)),tok { d with o := -1,sh:=(sh0.set m.src true).set d.asks true,waits:=0,told:=true } rfl rfl rfl [sendM m 8 d.asks (lineB (setLn bs m.line m.bs) m.line)] (nok 8 d.asks _ (by decide))⟩,fun c hc=>?_,by show (-1:Int)<M;omega,fun _=>hask⟩,one 8 d.asks _ (by decide) hask,hq⟩
    ·rw [List.nil_append,List.flatMap_cons,send_er _ _ _ _ (by decide),if_pos (by decide),hm]
     rw [hm] at hmem
     rw [hmem]
     exact List.Perm.refl _
    ·by_cases e:c=d.o
     ·subst e
      refine i.imp id fun ⟨j1,j2,_⟩=>⟨j1,j2,?_⟩
      show ((sh0.set m.src true).set d.asks true).get d.o=true
      rw [sh_set_ne f,hsrc]
      exact sh_set_eq (by omega)
     ·exact .inl (g c h1 h2 e)
    ·have hc':((sh0.set m.src true).set d.asks true).get c=true:=hc
     by_cases e1:c=d.asks
     ·rw [e1];exact hask.2
     ·rw [sh_set_ne e1] at hc'
      by_cases e2:c=m.src
      ·rw [e2,hsrc];exact hown
      ·rw [sh_set_ne e2] at hc'
       exact (sh0_none hc').elim
   ·rw [other_b2 hk hk1]
    refine ⟨⟨⟨_,true,?_,Ph.dataO (d:={ ownF d d.asks with waits:=0,told:=true }) 10 a rfl rfl (fun c h1 h2 hne=>?_) (.inl ?_) (.inr ⟨rfl,by show d.kind=2;omega⟩),tok { ownF d d.asks with waits:=0,told:=true } rfl rfl rfl [sendM m 10 d.asks (lineB (setLn bs m.line m.bs) m.line)] (nok 10 d.asks _ (by decide))⟩,fun c hc=>(sh0_none hc).elim,hask.2,fun _=>hask⟩,one 10 d.asks _ (by decide) hask,hq⟩
    ·rw [List.nil_append,List.flatMap_cons,send_er _ _ _ _ (by decide),if_pos (by decide),hm]
     rw [hm] at hmem
     rw [hmem]
     exact List.Perm.refl _
    ·by_cases e:c=d.o
     ·subst e
      rcases i with i | ⟨_,_,i⟩
      ·exact i
      ·exact absurd i hk1
     ·exact g c h1 h2 e
    ·exact g d.asks hask.1 hask.2 (Ne.symm f)
  | drops C a b c e f g i j k l=>
   have hmem:=hp.subset (List.mem_cons_self ..)
   obtain ⟨x,_,hx⟩:=List.mem_map.1 hmem
   have:=congrArg (fun z=>z.1) hx
   by_cases hx2:x.2=true <;> simp [hx2] at this
  | dataO k a b c e f g=>
   have:=(perm_cons_one hp).1
   simp only [Prod.mk.injEq] at this
   omega
  | dataS a=>
   have:=(perm_cons_one hp).1
   simp only [Prod.mk.injEq] at this
   omega
  | doneO a=>
   have:=(perm_cons_one hp).1
   simp only [Prod.mk.injEq] at this
   omega
  | doneS a=>
   have:=(perm_cons_one hp).1
   simp only [Prod.mk.injEq] at this
   omega
 ·rw [er_one hk (by decide) (if_neg (by decide)) (if_neg (by decide))] at hp
  cases hph with
  | idleO a=>exact absurd hp.length_eq (by simp)
  | idleS a=>exact absurd hp.length_eq (by simp)
  | fwd a b c e f g i=>
   have:=(perm_cons_one hp).1
   simp only [Prod.mk.injEq] at this
   have hkd:=hi.ok.kind a
   omega
  | back a=>
   have:=(perm_cons_one hp).1
   simp only [Prod.mk.injEq] at this
   omega
  | drops C a b c e f g i j k l=>
   have hin:(m.src,true)∈C:=by
    obtain ⟨x,hx,hx'⟩:=List.mem_map.1 (hp.subset (List.mem_cons_self ..))
    obtain ⟨x1,x2⟩:=x
    cases x2
    ·simp at hx'
    ·simp at hx';rw [← hx'];exact hx
   have hnd:=nodup_of_map g
   have hlen:(C.erase (m.src,true)).length=C.length-1:=List.length_erase_of_mem hin
   have hpos:0<C.length:=List.length_pos_of_mem hin
   have hR:R.Perm ((C.erase (m.src,true)).map fun x=>(if x.2 then 12 else 6,x.1,b16z)):=by
    have h1:C.Perm ((m.src,true)::C.erase (m.src,true)):=List.perm_cons_erase hin
    have h2:=h1.map fun x:Int × Bool=>((if x.2 then 12 else 6:Int),x.1,b16z)
    exact (hp.trans h2).cons_inv
   have hs0:(v m.src).s=0:=(k _ hin).2.2 rfl
   have hask:=h.ask a
   obtain ⟨hmem,hSh⟩:=f
   by_cases hw:d.waits=1
   ·rw [other_a1 hk hw]
    have hC:C.erase (m.src,true)=[]:=List.eq_nil_of_length_eq_zero (by omega)
    have hall:∀ x∈C,x=(m.src,true):=fun x hx=>by
     by_cases ex:x=(m.src,true)
     ·exact ex
     ·have:=(List.Nodup.mem_erase_iff hnd).2 ⟨ex,hx⟩
      rw [hC] at this
      cases this
    rw [hC] at hR
    obtain rfl:=List.Perm.eq_nil hR
    refine ⟨⟨⟨_,true,?_,Ph.dataO (d:={ ownF d d.asks with waits:=0,told:=true }) 10 a rfl rfl (fun c h1 h2 hne=>?_) ((hSh d.asks hask.1 hask.2).imp id fun h=>⟨h.1,h.2.1⟩) (.inr ⟨rfl,e⟩),tok { ownF d d.asks with waits:=0,told:=true } rfl rfl rfl [sendM m 10 d.asks (lineB bs m.line)] (nok 10 d.asks _ (by decide))⟩,fun c hc=>(sh0_none hc).elim,hask.2,fun _=>hask⟩,one 10 d.asks _ (by decide) hask,hq⟩
    ·rw [List.nil_append,List.flatMap_cons,send_er _ _ _ _ (by decide),if_pos (by decide),hm,hmem]
     exact List.Perm.refl _
    ·rcases hSh c h1 h2 with h | ⟨_,_,h⟩
     ·exact h
     ·rcases l c h with h | h
      ·exact absurd h hne
      ·obtain ⟨x,hx,rfl⟩:=List.mem_map.1 h
       rw [hall x hx]
       exact hs0
   ·rw [other_a2 hk hw]
    refine ⟨⟨⟨_,true,?_,Ph.drops (d:={ d with sh:=d.sh.set m.src false,waits:=d.waits-1 }) (C.erase (m.src,true)) a b c e ⟨hmem,fun c' h1 h2=>?_⟩ ?_ ?_ ?_ (fun x hx=>?_) (fun c' hc=>?_),fun c' h1 h2=>?_⟩,fun c' hc=>?_,h.own,fun _=>hask⟩,(fun y hy=>by cases hy),hq⟩
    ·show (R++[].flatMap er).Perm _
     rw [List.flatMap_nil,List.append_nil]
     exact hR
    ·refine (hSh c' h1 h2).imp id fun ⟨j1,j2,j3⟩=>⟨j1,j2,?_⟩
     show (d.sh.set m.src false).get c'=true
     rw [sh_set_ne fun e=>by rw [e] at j1;omega]
     exact j3
    ·exact List.Nodup.sublist (List.Sublist.map _ (List.erase_sublist)) g
    ·show _=d.waits-1
     omega
    ·show 1≤d.waits-1
     omega
    ·obtain ⟨hne,hx'⟩:=(List.Nodup.mem_erase_iff hnd).1 hx
     obtain ⟨k1,k2,k3⟩:=k x hx'
     refine ⟨?_,k2,k3⟩
     show (d.sh.set m.src false).get x.1=true
     rw [sh_set_ne fun e=>hne (nodup_fst g hx' hin e)]
     exact k1
    ·have hc':(d.sh.set m.src false).get c'=true:=hc
     have hcm:c'≠m.src:=fun e=>by
      subst e
      have hk1:=k _ hin
      have:=sh_get_rng hk1.1
      rw [sh_set_eq this] at hc'
      cases hc'
     rw [sh_set_ne hcm] at hc'
     refine (l c' hc').imp id fun h=>?_
     obtain ⟨x,hx,rfl⟩:=List.mem_map.1 h
     exact List.mem_map.2 ⟨x,(List.Nodup.mem_erase_iff hnd).2 ⟨fun e=>hcm (by rw [e]),hx⟩,rfl⟩
    ·exact tok { d with sh:=d.sh.set m.src false,waits:=d.waits-1 } rfl rfl rfl [] (fun c=>by rw [List.flatMap_nil,List.append_nil]) c' h1 h2
    ·have hc':(d.sh.set m.src false).get c'=true:=hc
     by_cases e:c'=m.src
     ·subst e
      exact h.shr _ (k _ hin).1
     ·rw [sh_set_ne e] at hc'
      exact h.shr _ hc'
  | dataO k a b c e f g=>
   have:=(perm_cons_one hp).1
   simp only [Prod.mk.injEq] at this
   omega
  | dataS a=>
   have:=(perm_cons_one hp).1
   simp only [Prod.mk.injEq] at this
   omega
  | doneO a=>
   have:=(perm_cons_one hp).1
   simp only [Prod.mk.injEq] at this
   omega
  | doneS a=>
   have:=(perm_cons_one hp).1
   simp only [Prod.mk.injEq] at this
   omega
 ·rw [er_one hk (by decide) (if_neg (by decide)) (if_neg (by decide))] at hp
  have fin:∀ (hR:R=[]),sv=false→Ph M { d with busy:=false,asks:=0,kind:=0,waits:=0,told:=false } (lineB bs n) cur v (fun c=>PW c++d.q.flatMap (pt c)) [] false→EI n { d with busy:=false,asks:=0,kind:=0,waits:=0,told:=false }→LI M (drainF d.q bs { d with busy:=false,asks:=0,kind:=0,waits:=0,told:=false }).1 (lineB (drainF d.q bs { d with busy:=false,asks:=0,kind:=0,waits:=0,told:=false }).2.1 n) cur v (R++(drainF d.q bs { d with busy:=false,asks:=0,kind:=0,waits:=0,told:=false }).2.2.flatMap er) (fun c=>GW c++(drainF d.q bs { d with busy:=false,asks:=0,kind:=0,waits:=0,told:=false }).1.q.flatMap (gt c)) (fun c=>PW c++(drainF d.q bs { d with busy:=false,asks:=0,kind:=0,waits:=0,told:=false }).1.q.flatMap (pt c)) (fun c=>A c++(drainF d.q bs { d with busy:=false,asks:=0,kind:=0,waits:=0,told:=false }).2.2.flatMap (kt c))∧(∀ y∈(drainF d.q bs { d with busy:=false,asks:=0,kind:=0,waits:=0,told:=false }).2.2,y.line=n∧(4≤y.kind∧y.kind≤10)∧(0≤y.dst∧y.dst<M))∧∀ z∈(drainF d.q bs { d with busy:=false,asks:=0,kind:=0,waits:=0,told:=false }).1.q,z.src<M:=by
   intro hR hsv hPh hEI
   subst hR hsv
   have hL:LI M { d with busy:=false,asks:=0,kind:=0,waits:=0,told:=false } (lineB bs n) cur v [] (fun c=>GW c++d.q.flatMap (gt c)) (fun c=>PW c++d.q.flatMap (pt c)) A:=⟨⟨[],false,List.Perm.refl _,hPh,fun c h1 h2=>(ht c h1 h2).move (by unfold Wait;rw [if_neg (by simp),if_neg (by simp)])⟩,h.shr,h.own,fun h=>by cases h⟩
   exact drain_li hM h0 d.q bs _ [] A hL hEI (fun m hm=>⟨hi.ok.rest m hm,hq m hm⟩) hn
  have hEI:EI n { d with busy:=false,asks:=0,kind:=0,waits:=0,told:=false }:=⟨⟨by show (0:Int)≤0∧(0:Int)<4;decide,fun _=>rfl,hi.ok.own,hi.ok.q,pW0,fun h=>(by cases h)⟩,hi.apart,fun _=>⟨rfl,rfl⟩⟩
  rw [other_d hk]
  cases hph with
  | idleO a=>exact absurd hp.length_eq (by simp)
  | idleS a=>exact absurd hp.length_eq (by simp)
  | fwd a b c e f g i=>
   have:=(perm_cons_one hp).1
   simp only [Prod.mk.injEq] at this
   have hkd:=hi.ok.kind a
   omega
  | back a=>
   have:=(perm_cons_one hp).1
   simp only [Prod.mk.injEq] at this
   omega
  | drops C a b c e f g i j k l=>
   have hmem:=hp.subset (List.mem_cons_self ..)
   obtain ⟨x,_,hx⟩:=List.mem_map.1 hmem
   have:=congrArg (fun z=>z.1) hx
   by_cases hx2:x.2=true <;> simp [hx2] at this
  | dataO k a b c e f g=>
   have:=(perm_cons_one hp).1
   simp only [Prod.mk.injEq] at this
   omega
  | dataS a=>
   have:=(perm_cons_one hp).1
   simp only [Prod.mk.injEq] at this
   omega
  | doneO a b c e f=>
   have hask:=h.ask a
   have hR:R=[]:=(perm_cons_one hp).2
   exact fin hR rfl (Ph.idleO (d:={ d with busy:=false,asks:=0,kind:=0,waits:=0,told:=false }) rfl (by show 0≤d.o;rw [c];exact hask.1) (by show Hold (v d.o) (PW d.o++d.q.flatMap (pt d.o)) cur;rw [c];exact e) (by show Alone M v d.o;rw [c];exact f)) hEI
  | doneS a b c e=>
   have hR:R=[]:=(perm_cons_one hp).2
   exact fin hR rfl (Ph.idleS (d:={ d with busy:=false,asks:=0,kind:=0,waits:=0,told:=false }) rfl c e) hEI
end
def updC (v:Int→CV) (c:Int) (x:CV):Int→CV:=fun z=>if z=c then x else v z
theorem upd_same (v:Int→CV) (c:Int) (x:CV):updC v c x c=x:=if_pos rfl
theorem upd_ne {v:Int→CV} {c z:Int} {x:CV} (h:z≠c):updC v c x z=v z:=if_neg h
def put1 {α:Type} (F:Int→List α) (c:Int) (l:List α):Int→List α:=fun z=>if z=c then l else F z
theorem put1_same {α:Type} (F:Int→List α) (c:Int) (l:List α):put1 F c l c=l:=if_pos rfl
theorem put1_ne {α:Type} {F:Int→List α} {c z:Int} {l:List α} (h:z≠c):put1 F c l z=F z:=if_neg h
section
variable {M:Int} {d:Ent} {mem cur:B16} {v:Int→CV} {R:List ER} {G:Int→List Bool} {P:Int→List B16} {A:Int→List Unit} {m:Msg} {c:Int} {x:CV}
theorem Alone.updC (h:Alone M v c):Alone M (updC v c x) c:=fun z h1 h2 h3=>by rw [upd_ne h3];exact h z h1 h2 h3
theorem Alone.upd0 {o:Int} (h:Alone M v o) (hx:x.s=0):Alone M (Go.Proofs.YtpfijldkkfiooaaGreatDoor.Ch.updC v c x) o:=fun z h1 h2 h3=>by
 by_cases e:z=c
 ·subst e;rw [upd_same];exact hx
 ·rw [upd_ne e];exact h z h1 h2 h3
theorem Alone.keep {o:Int} (h:Alone M v o) (hx:x.s=(v c).s):Alone M (Go.Proofs.YtpfijldkkfiooaaGreatDoor.Ch.updC v c x) o:=fun z h1 h2 h3=>by
 by_cases e:z=c
 ·subst e;rw [upd_same,hx];exact h z h1 h2 h3
 ·rw [upd_ne e];exact h z h1 h2 h3
theorem Shared.upd0 {sh:Sh} (h:Shared M sh mem cur v) (hx:x.s=0):Shared M sh mem cur (Go.Proofs.YtpfijldkkfiooaaGreatDoor.Ch.updC v c x):=⟨h.1,fun z h1 h2=>by
 by_cases e:z=c
 ·subst e;rw [upd_same];exact .inl hx
 ·rw [upd_ne e];exact h.2 z h1 h2⟩
theorem Shared.keep {sh:Sh} (h:Shared M sh mem cur v) (hx:x.s=(v c).s) (hb:x.b=(v c).b):Shared M sh mem cur (Go.Proofs.YtpfijldkkfiooaaGreatDoor.Ch.updC v c x):=⟨h.1,fun z h1 h2=>by
 by_cases e:z=c
 ·subst e;rw [upd_same,hx,hb];exact h.2 z h1 h2
 ·rw [upd_ne e];exact h.2 z h1 h2⟩
theorem Shared.low {sh:Sh} (h:Shared M sh mem cur v) (h0:0≤c) (h1:c<M):(v c).s=0∨(v c).s=1:=(h.2 c h0 h1).imp id fun h=>h.1
theorem er_in {k z:Int} {b:B16} {R R':List ER} (h:((k,z,b)::R).Perm R'):(k,z,b)∈R':=h.subset (List.mem_cons_self ..)
theorem data_li (h:LI M d mem cur v (er m++R) G P A) (hk:m.kind=8∨m.kind=9∨m.kind=10) (hi:d.busy=true→d.kind=1∨d.kind=2) (hc:m.dst=c) (s:Int) (hs:s=if m.kind=8 then 1 else 2) :
  (0≤c∧c<M)∧(v c).a=some (decide (m.kind=10))∧(v c).g=none∧m.bs=cur∧LI M d mem cur (updC v c ⟨s,m.bs,(v c).g,none⟩) ((13,c,b16z)::R) G P A:=by
 obtain ⟨R',sv,hp,hph,ht⟩:=h.ph
 rw [er_one (k:=m.kind) rfl (by omega) (if_pos (by omega)) (if_pos (by omega)),hc] at hp
 have no:∀ {k z:Int} {b:B16},([(m.kind,c,m.bs)]++R).Perm [(k,z,b)]→m.kind=k∧c=z∧m.bs=b∧R=[]:=fun h=>by
  obtain ⟨a,b⟩:=perm_cons_one h
  simp only [Prod.mk.injEq] at a
  exact ⟨a.1,a.2.1,a.2.2,b⟩
 -- who asks is served
 have srv:sv=true→d.busy=true→c=d.asks→((m.kind=10)↔d.kind=2)→(0≤c∧c<M)∧(v c).a=some (decide (m.kind=10))∧(v c).g=none∧∀ z,0≤z→z<M→Tok d false z (updC v c ⟨s,m.bs,(v c).g,none⟩ z) (G z) (P z) (A z):=by
  intro h1 h2 h3 h4
  have hask:=h.ask h2
  rw [← h3] at hask
  have t:=ht c hask.1 hask.2
  have ha:=t.ask
  unfold Wait at ha
  rw [if_pos ⟨h1,h3.symm⟩] at ha
  have hG:G c=[]∧(v c).a=some (decide (d.kind=2)):=by
   cases hA:(v c).a with
   | none=>rw [hA] at ha;simp at ha
   | some y=>
    rw [hA] at ha
    have hl:=congrArg List.length ha
    simp only [List.length_append,List.length_cons,List.length_nil,Option.toList_some] at hl
    have hg:G c=[]:=List.eq_nil_of_length_eq_zero (by omega)
    rw [hg] at ha
    simp at ha
    exact ⟨hg,by rw [← ha]⟩
  have hg:(v c).g=none:=by
   cases hg:(v c).g with
   | none=>rfl
   | some b=>have:=(t.giv (by rw [hg];simp)).2;rw [hG.2] at this;cases this
  refine ⟨hask,?_,hg,fun z hz1 hz2=>?_⟩
  ·rw [hG.2];congr 1;exact decide_eq_decide.2 h4.symm
  ·by_cases e:z=c
   ·subst e
    rw [upd_same]
    refine ⟨?_,t.put,fun hg'=>absurd hg hg',fun w hw=>(by cases hw),?_⟩
    ·rw [hG.1];unfold Wait;rw [if_neg (by simp)];rfl
    ·show s=0∨s=1∨s=2∨s=3
     rw [hs];split <;> omega
   ·rw [upd_ne e]
    refine (ht z hz1 hz2).move ?_
    unfold Wait
    rw [if_neg (by simp),if_neg (by rw [← h3];exact fun h=>e h.2.symm)]
 cases hph with
 | idleO a=>exact absurd hp.length_eq (by simp)
 | idleS a=>exact absurd hp.length_eq (by simp)
 | fwd a=>have:=(no hp).1;have:=hi a;omega
 | back a=>have:=(no hp).1;omega
 | drops C=>
  obtain ⟨x,_,hx⟩:=List.mem_map.1 (er_in hp)
  have:=congrArg (fun z=>z.1) hx
  by_cases hx2:x.2=true <;> simp [hx2] at this <;> omega
 | doneO a=>have:=(no hp).1;omega
 | doneS a=>have:=(no hp).1;omega
 | dataO k a b e f g i=>
  obtain ⟨h1,h2,h3,rfl⟩:=no hp
  have hid:=hi a
  obtain ⟨s1,s2,s3,s4⟩:=srv rfl a h2 (by omega)
  refine ⟨s1,s2,s3,h3,⟨_,false,List.Perm.refl _,?_,s4⟩,h.shr,h.own,h.ask⟩
  rw [h2]
  refine Ph.doneO a b e (.inl ?_) ?_
  ·rw [upd_same]
   refine ⟨?_,h3,by show (v d.asks).g=none;rw [← h2];exact s3⟩
   show wr s
   rw [hs,if_neg (by omega)];exact .inl rfl
  ·exact Alone.updC f
 | dataS a b e f g i=>
  obtain ⟨h1,h2,h3,rfl⟩:=no hp
  obtain ⟨s1,s2,s3,s4⟩:=srv rfl a h2 (by omega)
  refine ⟨s1,s2,s3,h3,⟨_,false,List.Perm.refl _,?_,s4⟩,h.shr,h.own,h.ask⟩
  rw [h2]
  refine Ph.doneS a b e ⟨g.1,fun z z1 z2=>?_⟩
  by_cases e':z=d.asks
  ·subst e';rw [upd_same];exact .inr ⟨by show s=1;rw [hs,if_pos h1],h3,i⟩
  ·rw [upd_ne e'];exact g.2 z z1 z2
theorem share_li (h:LI M d mem cur v (er m++R) G P A) (hk:m.kind=4∨m.kind=5) (hi:d.busy=true→d.kind=1∨d.kind=2) (hc:m.dst=c) (b9:B16) :
  (0≤c∧c<M)∧(((v c).g=some cur∧LI M d mem cur v ((11,c,cur)::R) G P A)∨((v c).g=none∧wr (v c).s∧(v c).b=cur∧LI M d mem cur (updC v c ⟨if m.kind=4 then 1 else 0,if m.kind=4 then cur else b9,(v c).g,(v c).a⟩) ((11,c,cur)::R) G P A)):=by
 obtain ⟨R',sv,hp,hph,ht⟩:=h.ph
 rw [er_one (k:=m.kind) rfl (by omega) (if_pos (by omega)) (if_neg (by omega)),hc] at hp
 have no:∀ {k z:Int} {b:B16},([(m.kind,c,b16z)]++R).Perm [(k,z,b)]→m.kind=k∧c=z∧R=[]:=fun h=>by
  obtain ⟨a,b⟩:=perm_cons_one h
  simp only [Prod.mk.injEq] at a
  exact ⟨a.1,a.2.1,b⟩
 cases hph with
 | idleO a=>exact absurd hp.length_eq (by simp)
 | idleS a=>exact absurd hp.length_eq (by simp)
 | back a=>have:=(no hp).1;omega
 | drops C=>
  obtain ⟨x,_,hx⟩:=List.mem_map.1 (er_in hp)
  have:=congrArg (fun z=>z.1) hx
  by_cases hx2:x.2=true <;> simp [hx2] at this <;> omega
 | doneO a=>have:=(no hp).1;omega
 | doneS a=>have:=(no hp).1;omega
 | dataO k a b e f g i=>have:=(no hp).1;omega
 | dataS a=>have:=(no hp).1;omega
 | fwd a b e f g i j=>
  obtain ⟨h1,h2,rfl⟩:=no hp
  have hrng:0≤c∧c<M:=⟨by rw [h2];exact e,by rw [h2];exact h.own⟩
  refine ⟨hrng,?_⟩
  rcases i with ⟨i1,i2,i3⟩ | ⟨i1,i2,i3⟩
  ·rw [← h2] at i1 i2 i3
   refine .inr ⟨i3,i1,i2,⟨_,true,List.Perm.refl _,?_,fun z z1 z2=>?_⟩,h.shr,h.own,h.ask⟩
   ·rw [h2]
    refine Ph.back a b e f g (Alone.updC j) ?_
    rw [upd_same]
    by_cases h4:m.kind=4
    ·exact .inr ⟨if_pos h4,if_pos h4,by omega⟩
    ·exact .inl (if_neg h4)
   ·by_cases ez:z=c
    ·subst ez
     rw [upd_same]
     have t:=ht z z1 z2
     have hw:=wr_ne i1
     refine ⟨t.ask,t.put,fun hg=>absurd i3 hg,fun w hw'=>(t.st w hw').elim (fun h=>absurd h hw.1) (fun h=>absurd h.1 hw.2),?_⟩
     ·show (if m.kind=4 then (1:Int) else 0)=0∨(if m.kind=4 then (1:Int) else 0)=1∨(if m.kind=4 then (1:Int) else 0)=2∨(if m.kind=4 then (1:Int) else 0)=3
      split <;> omega
    ·rw [upd_ne ez];exact ht z z1 z2
  ·rw [← h2] at i1 i2 i3
   refine .inl ⟨i2,⟨_,true,List.Perm.refl _,?_,ht⟩,h.shr,h.own,h.ask⟩
   rw [h2]
   exact Ph.back a b e f g j (.inl (by rw [← h2];exact i1))
theorem drop_li (h:LI M d mem cur v (er m++R) G P A) (hk:m.kind=6) (hi:d.busy=true→d.kind=1∨d.kind=2) (hc:m.dst=c) (b9:B16) :
  (0≤c∧c<M)∧¬ wr (v c).s∧LI M d mem cur (updC v c ⟨0,b9,(v c).g,(v c).a⟩) ((12,c,b16z)::R) G P A:=by
 obtain ⟨R',sv,hp,hph,ht⟩:=h.ph
 rw [er_one hk (by omega) (if_pos (by omega)) (if_neg (by omega)),hc] at hp
 have no:∀ {k z:Int} {b:B16},([((6:Int),c,b16z)]++R).Perm [(k,z,b)]→6=k:=fun h=>by
  have:=(perm_cons_one h).1
  simp only [Prod.mk.injEq] at this
  exact this.1
 cases hph with
 | idleO a=>exact absurd hp.length_eq (by simp)
 | idleS a=>exact absurd hp.length_eq (by simp)
 | fwd a=>have:=no hp;have:=hi a;omega
 | back a=>have:=no hp;omega
 | doneO a=>have:=no hp;omega
 | doneS a=>have:=no hp;omega
 | dataO k a b e f g i=>have:=no hp;omega
 | dataS a=>have:=no hp;omega
 | drops C a b e f g i j k l o=>
  have hin:(c,false)∈C:=by
   obtain ⟨x,hx,hx'⟩:=List.mem_map.1 (er_in hp)
   obtain ⟨x1,x2⟩:=x
   cases x2
   ·simp at hx';rw [← hx'];exact hx
   ·simp at hx'
  have hnd:=nodup_of_map i
  have hrng:0≤c∧c<M:=⟨(sh_get_rng (l _ hin).1).1,h.shr _ (l _ hin).1⟩
  have hlow:=g.low hrng.1 hrng.2
  have hpc:C.Perm ((c,false)::C.erase (c,false)):=List.perm_cons_erase hin
  have hR:R.Perm ((C.erase (c,false)).map fun x=>(if x.2 then 12 else 6,x.1,b16z)):=by
   have h2:=hpc.map fun x:Int × Bool=>((if x.2 then 12 else 6:Int),x.1,b16z)
   exact (hp.trans h2).cons_inv
  have hfst:(C.map Prod.fst).Perm (((c,true)::C.erase (c,false)).map Prod.fst):=hpc.map Prod.fst
  have hlen:=hfst.length_eq
  rw [List.length_map,List.length_map] at hlen
  refine ⟨hrng,fun hw=>by have:=wr_ne hw;omega,⟨_,true,?_,Ph.drops ((c,true)::C.erase (c,false)) a b e f (g.upd0 rfl) (hfst.nodup_iff.1 i) (by rw [← hlen];exact j) k (fun x hx=>?_) (fun z hz=>(o z hz).imp id fun h=>hfst.subset h),fun z z1 z2=>?_⟩,h.shr,h.own,h.ask⟩
  ·rw [List.map_cons]
   exact List.Perm.cons _ hR
  ·rcases List.mem_cons.1 hx with rfl | hx
   ·obtain ⟨l1,l2,_⟩:=l _ hin
    exact ⟨l1,l2,fun _=>by rw [upd_same]⟩
   ·obtain ⟨hne,hx'⟩:=(List.Nodup.mem_erase_iff hnd).1 hx
    obtain ⟨l1,l2,l3⟩:=l x hx'
    have:x.1≠c:=fun e=>hne (nodup_fst i hx' hin e)
    exact ⟨l1,l2,fun h=>by rw [upd_ne this];exact l3 h⟩
  ·by_cases ez:z=c
   ·subst ez
    rw [upd_same]
    have t:=ht z z1 z2
    exact ⟨t.ask,t.put,fun hg=>⟨rfl,(t.giv hg).2⟩,fun w hw => .inl rfl,.inl rfl⟩
   ·rw [upd_ne ez];exact ht z z1 z2
end
section
variable {M:Int} {d:Ent} {mem cur:B16} {v:Int→CV} {R:List ER} {G:Int→List Bool} {P:Int→List B16} {A:Int→List Unit} {m:Msg} {c:Int} {x:CV}
theorem Hold.updC {o:Int} {p:List B16} (h:Hold (v o) p cur) (ho:o≠c):Hold (Go.Proofs.YtpfijldkkfiooaaGreatDoor.Ch.updC v c x o) p cur:=by rw [upd_ne ho];exact h
theorem acked_li (h:LI M d mem cur v R G P A) (h0:0≤c∧c<M) {l:List Unit} (hA:A c=()::l) :
  (v c).g≠none∧LI M d mem cur (updC v c ⟨(v c).s,(v c).b,none,(v c).a⟩) R G P (put1 A c l):=by
 obtain ⟨R',sv,hp,hph,ht⟩:=h.ph
 have t:=ht c h0.1 h0.2
 obtain ⟨b,hg,hP,hl⟩:∃ b,(v c).g=some b∧P c=[]∧l=[]:=by
  rcases t.put with ⟨_,_,a⟩ | ⟨b,a,⟨_,e⟩ | ⟨e,f⟩⟩
  ·rw [hA] at a;cases a
  ·rw [hA] at e;cases e
  ·rw [hA] at f;simp at f;exact ⟨b,a,e,f⟩
 have hs:=t.giv (by rw [hg];simp)
 have hold:∀ o,Hold (v o) (P o) cur→Hold (updC v c ⟨(v c).s,(v c).b,none,(v c).a⟩ o) (P o) cur:=fun o ho=>by
  by_cases e:o=c
  ·subst e
   rcases ho with ⟨hw,_⟩ | ⟨_,_,e⟩
   ·have:=wr_ne hw;omega
   ·rw [hP] at e;cases e
  ·exact ho.updC e
 refine ⟨by rw [hg];simp,⟨R',sv,hp,?_,fun z z1 z2=>?_⟩,h.shr,h.own,h.ask⟩
 ·cases hph with
  | idleO a b e f=>exact .idleO a b (hold _ e) (f.keep rfl)
  | idleS a b e=>exact .idleS a b (e.keep rfl rfl)
  | fwd a b e f g i j=>exact .fwd a b e f g (hold _ i) (j.keep rfl)
  | back a b e f g i j=>
   refine .back a b e f g (i.keep rfl) ?_
   by_cases ec:d.o=c
   ·rw [ec,upd_same,← ec];exact j
   ·rw [upd_ne ec];exact j
  | drops C a b e f g i j k l o=>
   refine .drops C a b e f (g.keep rfl rfl) i j k (fun x hx=>?_) o
   obtain ⟨l1,l2,l3⟩:=l x hx
   refine ⟨l1,l2,fun hx2=>?_⟩
   by_cases ec:x.1=c
   ·rw [ec,upd_same];show (v c).s=0;rw [← ec];exact l3 hx2
   ·rw [upd_ne ec];exact l3 hx2
  | dataO k a b e f g i=>
   refine .dataO k a b e (f.keep rfl) ?_ i
   by_cases ec:d.asks=c
   ·rw [ec,upd_same,← ec];exact g
   ·rw [upd_ne ec];exact g
  | dataS a b e f g i=>exact .dataS a b e f (g.keep rfl rfl) i
  | doneO a b e f g=>exact .doneO a b e (hold _ f) (g.keep rfl)
  | doneS a b e f=>exact .doneS a b e (f.keep rfl rfl)
 ·by_cases ez:z=c
  ·subst ez
   rw [upd_same,put1_same,hl]
   exact ⟨t.ask,.inl ⟨rfl,hP,rfl⟩,fun h=>absurd rfl h,t.st,t.rng⟩
  ·rw [upd_ne ez,put1_ne ez];exact ht z z1 z2
theorem ask_li (h:LI M d mem cur v R G P A) (h0:0≤c∧c<M) {w:Bool} (ha:(v c).a=none) (hg:(v c).g=none) (hs:(v c).s=0∨((v c).s=1∧w=true)) :
  LI M d mem cur (updC v c ⟨(v c).s,(v c).b,(v c).g,some w⟩) R (put1 G c (G c++[w])) P A:=by
 obtain ⟨R',sv,hp,hph,ht⟩:=h.ph
 have t:=ht c h0.1 h0.2
 have hGW:G c=[]∧Wait d sv c=[]:=by
  have:=t.ask
  rw [ha] at this
  exact List.append_eq_nil_iff.1 this
 have hold:∀ o,Hold (v o) (P o) cur→Hold (updC v c ⟨(v c).s,(v c).b,(v c).g,some w⟩ o) (P o) cur:=fun o ho=>by
  by_cases e:o=c
  ·subst e;rw [upd_same];exact ho
  ·exact ho.updC e
 refine ⟨⟨R',sv,hp,?_,fun z z1 z2=>?_⟩,h.shr,h.own,h.ask⟩
 ·cases hph with
  | idleO a b e f=>exact .idleO a b (hold _ e) (f.keep rfl)
  | idleS a b e=>exact .idleS a b (e.keep rfl rfl)
  | fwd a b e f g i j=>exact .fwd a b e f g (hold _ i) (j.keep rfl)
  | back a b e f g i j=>
   refine .back a b e f g (i.keep rfl) ?_
   by_cases ec:d.o=c
   ·rw [ec,upd_same,← ec];exact j
   ·rw [upd_ne ec];exact j
  | drops C a b e f g i j k l o=>
   refine .drops C a b e f (g.keep rfl rfl) i j k (fun x hx=>?_) o
   obtain ⟨l1,l2,l3⟩:=l x hx
   refine ⟨l1,l2,fun hx2=>?_⟩
   by_cases ec:x.1=c
   ·rw [ec,upd_same];show (v c).s=0;rw [← ec];exact l3 hx2
   ·rw [upd_ne ec];exact l3 hx2
  | dataO k a b e f g i=>
   refine .dataO k a b e (f.keep rfl) ?_ i
   by_cases ec:d.asks=c
   ·rw [ec,upd_same,← ec];exact g
   ·rw [upd_ne ec];exact g
  | dataS a b e f g i=>exact .dataS a b e f (g.keep rfl rfl) i
  | doneO a b e f g=>exact .doneO a b e (hold _ f) (g.keep rfl)
  | doneS a b e f=>exact .doneS a b e (f.keep rfl rfl)
 ·by_cases ez:z=c
  ·subst ez
   rw [upd_same,put1_same,hGW.1]
   refine ⟨?_,t.put,fun h=>absurd hg h,fun w' hw=>?_,t.rng⟩
   ·rw [hGW.2];rfl
   ·simp at hw;subst hw;exact hs
  ·rw [upd_ne ez,put1_ne ez];exact ht z z1 z2
theorem outS_li (h:LI M d mem cur v R G P A) (h0:0≤c∧c<M) (hs:(v c).s=1) (b9:B16) :
  LI M d mem cur (updC v c ⟨0,b9,(v c).g,(v c).a⟩) R G P A:=by
 obtain ⟨R',sv,hp,hph,ht⟩:=h.ph
 have hold:∀ o,Hold (v o) (P o) cur→Hold (updC v c ⟨0,b9,(v c).g,(v c).a⟩ o) (P o) cur:=fun o ho=>by
  by_cases e:o=c
  ·subst e
   rcases ho with ⟨hw,_⟩ | ⟨e,_⟩
   ·have:=wr_ne hw;omega
   ·omega
  ·exact ho.updC e
 refine ⟨⟨R',sv,hp,?_,fun z z1 z2=>?_⟩,h.shr,h.own,h.ask⟩
 ·cases hph with
  | idleO a b e f=>exact .idleO a b (hold _ e) (f.upd0 rfl)
  | idleS a b e=>exact .idleS a b (e.upd0 rfl)
  | fwd a b e f g i j=>exact .fwd a b e f g (hold _ i) (j.upd0 rfl)
  | back a b e f g i j=>
   refine .back a b e f g (i.upd0 rfl) ?_
   by_cases ec:d.o=c
   ·rw [ec,upd_same];exact .inl rfl
   ·rw [upd_ne ec];exact j
  | drops C a b e f g i j k l o=>
   refine .drops C a b e f (g.upd0 rfl) i j k (fun x hx=>?_) o
   obtain ⟨l1,l2,l3⟩:=l x hx
   refine ⟨l1,l2,fun hx2=>?_⟩
   by_cases ec:x.1=c
   ·rw [ec,upd_same]
   ·rw [upd_ne ec];exact l3 hx2
  | dataO k a b e f g i=>
   refine .dataO k a b e (f.upd0 rfl) ?_ i
   by_cases ec:d.asks=c
   ·rw [ec,upd_same];exact .inl rfl
   ·rw [upd_ne ec];exact g
  | dataS a b e f g i=>exact .dataS a b e f (g.upd0 rfl) i
  | doneO a b e f g=>exact .doneO a b e (hold _ f) (g.upd0 rfl)
  | doneS a b e f=>exact .doneS a b e (f.upd0 rfl)
 ·by_cases ez:z=c
  ·subst ez
   rw [upd_same]
   have t:=ht z z1 z2
   exact ⟨t.ask,t.put,fun hg=>⟨rfl,(t.giv hg).2⟩,fun w hw => .inl rfl,.inl rfl⟩
  ·rw [upd_ne ez];exact ht z z1 z2
theorem own_li (h:LI M d mem cur v R G P A) (h0:0≤c∧c<M) (hw:wr (v c).s):(v c).b=cur∧(v c).g=none∧(v c).a=none∧Alone M v c∧P c=[]:=by
 obtain ⟨R',sv,hp,hph,ht⟩:=h.ph
 have t:=ht c h0.1 h0.2
 have hn:=wr_ne hw
 have hg:(v c).g=none:=by
  cases hg:(v c).g with
  | none=>rfl
  | some b=>have:=(t.giv (by rw [hg];simp)).1;omega
 have ha:(v c).a=none:=by
  cases ha:(v c).a with
  | none=>rfl
  | some w=>exact (t.st w ha).elim (fun h=>absurd h hn.1) (fun h=>absurd h.1 hn.2)
 have hP:P c=[]:=by
  rcases t.put with ⟨_,a,_⟩ | ⟨b,a,_⟩
  ·exact a
  ·rw [hg] at a;cases a
 have fin:∀ o,Hold (v o) (P o) cur→Alone M v o→(v c).b=cur∧(v c).g=none∧(v c).a=none∧Alone M v c∧P c=[]:=fun o ho hA=>by
  by_cases e:c=o
  ·subst e
   rcases ho with ⟨_,hb,_⟩ | ⟨e,_⟩
   ·exact ⟨hb,hg,ha,hA,hP⟩
   ·omega
  ·have:=hA c h0.1 h0.2 e;omega
 have sh:∀ {s:Sh},Shared M s mem cur v→False:=fun h=>by have:=h.low h0.1 h0.2;omega
 cases hph with
 | idleO a b e f=>exact fin _ e f
 | idleS a b e=>exact (sh e).elim
 | fwd a b e f g i j=>exact fin _ i j
 | back a b e f g i j=>
  exfalso
  by_cases ec:c=d.o
  ·subst ec;rcases j with j | ⟨j,_⟩ <;> omega
  ·have:=i c h0.1 h0.2 ec;omega
 | drops C a b e f g=>exact (sh g).elim
 | dataO k a b e f g i=>
  exfalso
  by_cases ec:c=d.asks
  ·subst ec;rcases g with j | ⟨j,_⟩ <;> omega
  ·have:=f c h0.1 h0.2 ec;omega
 | dataS a b e f g i=>exact (sh g).elim
 | doneO a b e f g=>exact fin _ f g
 | doneS a b e f=>exact (sh f).elim
theorem has_li (h:LI M d mem cur v R G P A) (h0:0≤c∧c<M) (hs:(v c).s≠0):(v c).b=cur:=by
 by_cases hw:wr (v c).s
 ·exact (own_li h h0 hw).1
 obtain ⟨R',sv,hp,hph,ht⟩:=h.ph
 have hr:=(ht c h0.1 h0.2).rng
 have h1:(v c).s=1:=by unfold wr at hw;omega
 have al:∀ o,Hold (v o) (P o) cur→Alone M v o→False:=fun o ho hA=>by
  by_cases e:c=o
  ·subst e
   rcases ho with ⟨hw',_⟩ | ⟨e,_⟩
   ·exact hw hw'
   ·exact hs e
  ·exact hs (hA c h0.1 h0.2 e)
 have sh:∀ {s:Sh},Shared M s mem cur v→(v c).b=cur:=fun h=>(h.2 c h0.1 h0.2).elim (fun h=>absurd h hs) (fun h=>h.2.1)
 cases hph with
 | idleO a b e f=>exact (al _ e f).elim
 | idleS a b e=>exact sh e
 | fwd a b e f g i j=>exact (al _ i j).elim
 | back a b e f g i j=>
  by_cases ec:c=d.o
  ·subst ec;exact j.elim (fun h=>absurd h hs) (fun h=>h.2.1)
  ·exact absurd (i c h0.1 h0.2 ec) hs
 | drops C a b e f g=>exact sh g
 | dataO k a b e f g i=>
  by_cases ec:c=d.asks
  ·subst ec;exact g.elim (fun h=>absurd h hs) (fun h=>h.2)
  ·exact absurd (f c h0.1 h0.2 ec) hs
 | dataS a b e f g i=>exact sh g
 | doneO a b e f g=>exact (al _ f g).elim
 | doneS a b e f=>exact sh f
theorem turn_li (h:LI M d mem cur v R G P A) (h0:0≤c∧c<M) (hw:wr (v c).s) {cur':B16} {P':Int→List B16} (hP:∀ z,z≠c→P' z=P z) (hx:Hold x (P' c) cur') (ht:∀ sv,Tok d sv c (v c) (G c) (P c) (A c)→Tok d sv c x (G c) (P' c) (A c)):LI M d mem cur' (updC v c x) R G P' A:=by
 obtain ⟨hb,hg,ha,hA,hPc⟩:=own_li h h0 hw
 obtain ⟨R',sv,hp,hph,htk⟩:=h.ph
 have hn:=wr_ne hw
 have who:∀ o,Hold (v o) (P o) cur→Alone M v o→o=c:=fun o ho hA=>by
  by_cases e:c=o
  ·exact e.symm
  ·have:=hA c h0.1 h0.2 e;omega
 have sh:∀ {s:Sh},Shared M s mem cur v→False:=fun h=>by have:=h.low h0.1 h0.2;omega
 refine ⟨⟨R',sv,hp,?_,fun z z1 z2=>?_⟩,h.shr,h.own,h.ask⟩
 ·cases hph with
  | idleO a b e f=>
   have e':=who _ e f
   refine .idleO a b ?_ (by rw [e'];exact hA.updC)
   rw [e',upd_same];exact hx
  | idleS a b e=>exact (sh e).elim
  | fwd a b e f g i j=>
   have e':=who _ i j
   refine .fwd a b e f g ?_ (by rw [e'];exact hA.updC)
   rw [e',upd_same];exact hx
  | back a b e f g i j=>
   exfalso
   by_cases ec:c=d.o
   ·subst ec;rcases j with j | ⟨j,_⟩ <;> omega
   ·have:=i c h0.1 h0.2 ec;omega
  | drops C a b e f g=>exact (sh g).elim
  | dataO k a b e f g i=>
   exfalso
   by_cases ec:c=d.asks
   ·subst ec;rcases g with j | ⟨j,_⟩ <;> omega
   ·have:=f c h0.1 h0.2 ec;omega
  | dataS a b e f g i=>exact (sh g).elim
  | doneO a b e f g=>
   have e':=who _ f g
   refine .doneO a b e ?_ (by rw [e'];exact hA.updC)
   rw [e',upd_same];exact hx
  | doneS a b e f=>exact (sh f).elim
 ·by_cases ez:z=c
  ·subst ez;rw [upd_same];exact ht sv (htk z z1 z2)
  ·rw [upd_ne ez,hP z ez];exact htk z z1 z2
theorem write_li (h:LI M d mem cur v R G P A) (h0:0≤c∧c<M) (hw:wr (v c).s) (cur':B16) {s:Int} (hs:wr s):LI M d mem cur' (updC v c ⟨s,cur',(v c).g,(v c).a⟩) R G P A:=by
 obtain ⟨hb,hg,ha,hA,hPc⟩:=own_li h h0 hw
 refine turn_li h h0 hw (fun z _=>rfl) (.inl ⟨hs,rfl,hg⟩) fun sv t=>⟨t.ask,t.put,fun hg'=>absurd hg hg',fun w hw'=>(by rw [show (v c).a=some w from hw'] at ha;cases ha),?_⟩
 show s=0∨s=1∨s=2∨s=3
 unfold wr at hs;omega
theorem outW_li (h:LI M d mem cur v R G P A) (h0:0≤c∧c<M) (hw:wr (v c).s) (b9:B16):LI M d mem cur (updC v c ⟨0,b9,some (v c).b,(v c).a⟩) R G (put1 P c (P c++[(v c).b])) A:=by
 obtain ⟨hb,hg,ha,hA,hPc⟩:=own_li h h0 hw
 refine turn_li h h0 hw (fun z hz=>put1_ne hz) (.inr ⟨rfl,by show some (v c).b=_;rw [hb],by rw [put1_same,hPc,hb];rfl⟩) fun sv t=>⟨t.ask,?_,fun _=>⟨rfl,ha⟩,fun w hw' => .inl rfl,.inl rfl⟩
 refine .inr ⟨(v c).b,rfl,.inl ⟨by rw [put1_same,hPc];rfl,?_⟩⟩
 rcases t.put with ⟨_,_,a⟩ | ⟨b,a,_⟩
 ·exact a
 ·rw [hg] at a;cases a
end
def gvw (g:Option Ln) (n:Int):Option B16:=match g with | some x=>if x.num=n then some x.bs else none | none=>none
def avw (a:Option (Int × Bool)) (n:Int):Option Bool:=match a with | some (l,w)=>if l=n then some w else none | none=>none
def bvw (L:List Ln) (n:Int):B16:=((getN L n).getD ln0).bs
def cvw (d:CD) (n:Int):CV:=⟨stateOf d.L n,bvw d.L n,gvw d.giv n,avw d.ask n⟩
section
variable {n k:Int} {L:List Ln} {d:CD} {x:Ln} {m:Msg}
theorem state_drop:stateOf (dropL L k) n=if n=k then 0 else stateOf L n:=by
 unfold stateOf
 rw [get_drop]
 split <;> rfl
theorem bvw_drop:bvw (dropL L k) n=if n=k then b16z else bvw L n:=by
 unfold bvw
 rw [get_drop]
 split <;> rfl
theorem get_appC (A B:List Ln) (num:Int):getN (A++B) num=(getN A num).or (getN B num):=by
 unfold getN
 rw [List.find?_append]
theorem get_put {c:Nat} {ways:Int} (he:putE c ways L x=0):getN (putL c ways L x) n=if n=x.num then some x else getN L n:=by
 unfold putL
 rw [if_pos he]
 by_cases h:getN L x.num=none
 ·rw [if_pos h,get_appC]
  by_cases e:n=x.num
  ·subst e
   rw [if_pos rfl,h]
   simp [getN,isNum]
  ·rw [if_neg e]
   have:getN [x] n=none:=by simp [getN,isNum];exact fun h=>e h.symm
   rw [this];simp
 ·rw [if_neg h];exact get_repl h
theorem state_put {c:Nat} {ways:Int} (he:putE c ways L x=0):stateOf (putL c ways L x) n=if n=x.num then x.state else stateOf L n:=by
 unfold stateOf
 rw [get_put he]
 split <;> rfl
theorem bvw_put {c:Nat} {ways:Int} (he:putE c ways L x=0):bvw (putL c ways L x) n=if n=x.num then x.bs else bvw L n:=by
 unfold bvw
 rw [get_put he]
 split <;> rfl
end
theorem wrb (s:Int):writesB s=true↔wr s:=by unfold writesB wr;simp
section
variable {d:CD} {m:Msg} {n:Int}
theorem avw_some {a:Option (Int × Bool)} {w:Bool} (h:avw a n=some w):a=some (n,w):=by
 unfold avw at h
 cases a with
 | none=>cases h
 | some y=>
  obtain ⟨l,w'⟩:=y
  dsimp only at h
  split at h
  ·rename_i e;cases h;rw [e]
  ·cases h
theorem gvw_some {g:Option Ln} {b:B16} (h:gvw g n=some b):∃ x,g=some x∧x.num=n∧x.bs=b:=by
 unfold gvw at h
 cases g with
 | none=>cases h
 | some y=>
  dsimp only at h
  split at h
  ·rename_i e;cases h;exact ⟨y,rfl,e,rfl⟩
  ·cases h
theorem there_of {L:List Ln} (h:stateOf L n≠0):∃ x,getN L n=some x∧(getN L n).getD ln0=x∧x.num=n:=by
 unfold stateOf at h
 cases hg:getN L n with
 | none=>rw [hg] at h;exact absurd rfl h
 | some x=>exact ⟨x,rfl,rfl,get_num hg⟩
theorem putE_there {c:Nat} {ways:Int} {L:List Ln} {x:Ln} (hx:getN L x.num≠none) (hs:1≤x.state∧x.state≤3):putE c ways L x=0:=by
 unfold putE
 rw [if_neg (by simp [okS,hs.1,hs.2]),if_neg fun h=>hx h.1]
theorem take_data (hd:DOk d) (hc:chk m=0) (hto:m.dst=d.id) (hk:m.kind=8∨m.kind=9∨m.kind=10) (ha:avw d.ask m.line=some (decide (m.kind=10))) :
  takeF d m=({ d with L:=putL d.n d.ways d.L (dataLn m),ask:=none },[mkM 13 d.id 4 m.line b16z m.hn],0) ∧
   ∀ n,cvw { d with L:=putL d.n d.ways d.L (dataLn m),ask:=none } n=if n=m.line then ⟨if m.kind=8 then 1 else 2,m.bs,gvw d.giv n,none⟩ else cvw d n:=by
 have ha':=avw_some ha
 have hok:dataOk d m=true:=by
  unfold dataOk
  rw [ha']
  simp
 have he:=data_room (d:=d) hd.room m hok
 refine ⟨?_,fun n=>?_⟩
 ·unfold takeF
  rw [if_neg (by simp [hc,hto]),if_pos hk,if_pos ⟨hok,he⟩]
 ·unfold cvw
  dsimp only
  rw [state_put he,bvw_put he]
  show (⟨if n=m.line then _ else _,if n=m.line then _ else _,_,_⟩:CV)=_
  by_cases e:n=m.line
  ·rw [if_pos e,if_pos e,if_pos e];rfl
  ·rw [if_neg e,if_neg e,if_neg e,ha']
   congr 1
   unfold avw
   dsimp only
   rw [if_neg (Ne.symm e)]
theorem take_share_g (hc:chk m=0) (hto:m.dst=d.id) (hk:m.kind=4∨m.kind=5) {b:B16} (hg:gvw d.giv m.line=some b):takeF d m=(d,[mkM 11 d.id 4 m.line b m.hn],0):=by
 obtain ⟨x,hx,hn,rfl⟩:=gvw_some hg
 unfold takeF
 rw [if_neg (by simp [hc,hto]),if_neg (by omega),if_pos hk,hx]
 dsimp only
 rw [if_pos hn]
theorem take_share_w (hc:chk m=0) (hto:m.dst=d.id) (hk:m.kind=4∨m.kind=5) (hg:gvw d.giv m.line=none) (hw:wr (stateOf d.L m.line)) :
  ∃ L',takeF d m=({ d with L:=L' },[mkM 11 d.id 4 m.line (bvw d.L m.line) m.hn],0) ∧
   ∀ n,cvw { d with L:=L' } n=if n=m.line then ⟨if m.kind=4 then 1 else 0,if m.kind=4 then bvw d.L m.line else b16z,gvw d.giv n,avw d.ask n⟩ else cvw d n:=by
 have hb:takeF d m=takeF.backF d m:=by
  unfold takeF
  rw [if_neg (by simp [hc,hto]),if_neg (by omega),if_pos hk]
  cases hgv:d.giv with
  | none=>rfl
  | some x=>
   dsimp only
   rw [if_neg fun e=>by rw [hgv] at hg;unfold gvw at hg;dsimp only at hg;rw [if_pos e] at hg;cases hg]
 have hw':writesB (stateOf d.L m.line)=true:=(wrb _).2 hw
 obtain ⟨x,hx1,hx2,hx3⟩:=there_of (wr_ne hw).1
 rw [hb]
 unfold takeF.backF
 rw [if_pos hw']
 refine ⟨_,rfl,fun n=>?_⟩
 rw [hx2]
 by_cases h4:m.kind=4
 ·rw [if_pos h4]
  have he:putE d.n d.ways d.L { x with state:=1 }=0:=putE_there (by show getN d.L x.num≠none;rw [hx3,hx1];simp) (by show 1≤(1:Int)∧(1:Int)≤3;decide)
  unfold cvw
  dsimp only
  rw [state_put he,bvw_put he]
  show (⟨if n=x.num then 1 else _,if n=x.num then x.bs else _,_,_⟩:CV)=_
  rw [hx3]
  by_cases e:n=m.line
  ·rw [if_pos e,if_pos e,if_pos e,if_pos h4,if_pos h4]
   congr 1
   unfold bvw;rw [hx2]
  ·rw [if_neg e,if_neg e,if_neg e]
 ·rw [if_neg h4]
  unfold cvw
  dsimp only
  rw [state_drop,bvw_drop,hx3]
  by_cases e:n=m.line
  ·rw [if_pos e,if_pos e,if_pos e,if_neg h4,if_neg h4]
  ·rw [if_neg e,if_neg e,if_neg e]
theorem take_drop (hc:chk m=0) (hto:m.dst=d.id) (hk:m.kind=6) (hw:¬ wr (stateOf d.L m.line)) :
  takeF d m=({ d with L:=dropL d.L m.line },[mkM 12 d.id 4 m.line b16z m.hn],0)∧∀ n,cvw { d with L:=dropL d.L m.line } n=if n=m.line then ⟨0,b16z,gvw d.giv n,avw d.ask n⟩ else cvw d n:=by
 refine ⟨?_,fun n=>?_⟩
 ·unfold takeF
  rw [if_neg (by simp [hc,hto]),if_neg (by omega),if_neg (by omega),if_pos hk,if_neg fun h=>hw ((wrb _).1 h)]
 ·unfold cvw
  dsimp only
  rw [state_drop,bvw_drop]
  by_cases e:n=m.line
  ·rw [if_pos e,if_pos e,if_pos e]
  ·rw [if_neg e,if_neg e,if_neg e]
theorem take_acked (hc:chk m=0) (hto:m.dst=d.id) (hk:m.kind=7) (hg:gvw d.giv m.line≠none) :
  takeF d m=({ d with giv:=none },[],0)∧∀ n,cvw { d with giv:=none } n=if n=m.line then ⟨stateOf d.L n,bvw d.L n,none,avw d.ask n⟩ else cvw d n:=by
 obtain ⟨b,hb⟩:∃ b,gvw d.giv m.line=some b:=by
  cases h:gvw d.giv m.line with
  | none=>exact absurd h hg
  | some b=>exact ⟨b,rfl⟩
 obtain ⟨x,hx,hn,_⟩:=gvw_some hb
 refine ⟨?_,fun n=>?_⟩
 ·unfold takeF
  rw [if_neg (by simp [hc,hto]),if_neg (by omega),if_neg (by omega),if_neg (by omega),if_pos (by rw [hx];simp [mine,hn])]
 ·unfold cvw
  dsimp only
  by_cases e:n=m.line
  ·rw [if_pos e];rfl
  ·rw [if_neg e,hx]
   congr 1
   unfold gvw
   dsimp only
   rw [if_neg (by rw [hn];exact Ne.symm e)]
theorem get_mem {L:List Ln} (hu:Uniq L) {x:Ln} (hx:x∈L):getN L x.num=some x:=by
 unfold getN
 induction L with
 | nil=>cases hx
 | cons y r ih=>
  rw [List.find?_cons]
  have hu':=List.pairwise_cons.1 hu
  by_cases e:y.num=x.num
  ·have:isNum x.num y=true:=by simp [isNum,e]
   rw [this]
   rcases List.mem_cons.1 hx with h | h
   ·rw [h]
   ·exact absurd e (hu'.1 x h)
  ·have:isNum x.num y=false:=by simp [isNum,e]
   rw [this]
   rcases List.mem_cons.1 hx with h | h
   ·exact absurd (by rw [h]) e
   ·exact ih hu'.2 h
theorem out_cases (hd:DOk d) {x:Ln} (hx:x∈d.L):(stateOf d.L x.num=1∧outF d x=({ d with L:=dropL d.L x.num },[],true)∧∀ n,cvw { d with L:=dropL d.L x.num } n=if n=x.num then ⟨0,b16z,gvw d.giv n,avw d.ask n⟩ else cvw d n) ∨
  (wr (stateOf d.L x.num)∧d.giv=none∧bvw d.L x.num=x.bs∧outF d x=({ d with L:=dropL d.L x.num,giv:=some x },[putM d.id x],true)∧∀ n,cvw { d with L:=dropL d.L x.num,giv:=some x } n=if n=x.num then ⟨0,b16z,some x.bs,avw d.ask n⟩ else cvw d n) ∨
  ((outF d x).1=d∧(outF d x).2.1=[]∧(outF d x).2.2=false):=by
 have hg:=get_mem hd.uniq hx
 have hst:stateOf d.L x.num=x.state:=by unfold stateOf;rw [hg];rfl
 have hrg:=hd.st x hx
 have hbv:bvw d.L x.num=x.bs:=by unfold bvw;rw [hg];rfl
 by_cases h1:x.state=1
 ·refine .inl ⟨by rw [hst,h1],by unfold outF;rw [if_pos h1],fun n=>?_⟩
  unfold cvw
  dsimp only
  rw [state_drop,bvw_drop]
  by_cases e:n=x.num
  ·rw [if_pos e,if_pos e,if_pos e]
  ·rw [if_neg e,if_neg e,if_neg e]
 ·have hw:wr (stateOf d.L x.num):=by rw [hst];unfold wr;omega
  cases hgv:d.giv with
  | none=>
   refine .inr (.inl ⟨hw,rfl,hbv,by unfold outF;rw [if_neg h1,hgv],fun n=>?_⟩)
   unfold cvw
   dsimp only
   rw [state_drop,bvw_drop,hgv]
   by_cases e:n=x.num
   ·rw [if_pos e,if_pos e,if_pos e]
    subst e
    show (⟨0,b16z,gvw (some x) x.num,_⟩:CV)=_
    unfold gvw
    dsimp only
    rw [if_pos rfl]
   ·rw [if_neg e,if_neg e,if_neg e]
    congr 1
    unfold gvw
    dsimp only
    rw [if_neg (Ne.symm e)]
  | some y=>exact .inr (.inr (by unfold outF;rw [if_neg h1,hgv];exact ⟨rfl,rfl,rfl⟩))
end
def cd0:CD:=⟨0,1,1,[],none,none⟩
def cat (cs:List CD) (z:Int):CD:=if 0≤z then cs.getD z.toNat cd0 else cd0
def vw (cs:List CD) (n:Int) (z:Int):CV:=cvw (cat cs z) n
def wn (n:Int) (way:List Msg):List Msg:=way.filter fun m=>decide (m.line=n)
theorem wn_app (n:Int) (a b:List Msg):wn n (a++b)=wn n a++wn n b:=List.filter_append ..
theorem wn_cons {n:Int} {m:Msg} {l:List Msg}:wn n (m::l)=if m.line=n then m::wn n l else wn n l:=by
 unfold wn
 by_cases h:m.line=n
 ·rw [if_pos h,List.filter_cons_of_pos (by simp [h])]
 ·rw [if_neg h,List.filter_cons_of_neg (by simp [h])]
theorem wn_all {n:Int} {l:List Msg} (h:∀ m∈l,m.line=n):wn n l=l:=List.filter_eq_self.2 fun m hm=>by simp [h m hm]
theorem wn_none {n k:Int} {l:List Msg} (h:∀ m∈l,m.line=k) (hk:k≠n):wn n l=[]:=List.filter_eq_nil_iff.2 fun m hm=>by simp [h m hm,hk]
theorem cat_set {cs:List CD} {c:Int} {d:CD} (h0:0≤c) (h1:c<cs.length) (z:Int):cat (cs.set c.toNat d) z=if z=c then d else cat cs z:=by
 unfold cat
 by_cases hz:0≤z
 ·rw [if_pos hz,if_pos hz]
  by_cases e:z=c
  ·subst e
   rw [if_pos rfl]
   have:z.toNat<cs.length:=by omega
   simp [List.getD,this]
  ·rw [if_neg e]
   have:c.toNat≠z.toNat:=by omega
   simp [List.getD,List.getElem?_set,this]
 ·rw [if_neg hz,if_neg hz,if_neg (by omega)]
theorem vw_set {cs:List CD} {c:Int} {d:CD} (h0:0≤c) (h1:c<cs.length) (n:Int):vw (cs.set c.toNat d) n=updC (vw cs n) c (cvw d n):=by
 funext z
 unfold vw updC
 rw [cat_set h0 h1]
 split <;> rfl
theorem upd_self (v:Int→CV) (c:Int):updC v c (v c)=v:=by
 funext z
 unfold updC
 split
 ·rename_i h;rw [h]
 ·rfl
def LS (cs:List CD) (h:HD) (way:List Msg) (cur:B16) (n:Nat):Prop:=
 LI cs.length (entOf h.E n) (lineB h.bs n) cur (vw cs n) ((wn n way).flatMap er) (fun c=>(wn n way).flatMap (gt c)++(entOf h.E n).q.flatMap (gt c)) (fun c=>(wn n way).flatMap (pt c)++(entOf h.E n).q.flatMap (pt c)) (fun c=>(wn n way).flatMap (kt c))
theorem LS.perm {cs:List CD} {h:HD} {way way':List Msg} {cur:B16} {n:Nat} (hl:LS cs h way cur n) (hp:(wn n way).Perm (wn n way')):LS cs h way' cur n:=
 LI.perm hl (hp.flatMap_right _) (fun c=>List.Perm.append_right _ (hp.flatMap_right _)) (fun c=>List.Perm.append_right _ (hp.flatMap_right _)) (fun c=>hp.flatMap_right _)
structure GM (M:Int) (N:Nat) (m:Msg):Prop where
 line:m.line.toNat<N
 chk:Go.Proofs.YtpfijldkkfiooaaGreatDoor.chk m=0
 rng:(m.dst=4∧(0≤m.src∧m.src<M))∨(m.dst≠4∧(0≤m.dst∧m.dst<M)∧(4≤m.kind∧m.kind≤10))
structure SI (cs:List CD) (h:HD) (way:List Msg) (last:Nat→B16) (k:Nat):Prop where
 len:1≤cs.length∧cs.length≤4
 ok:∀ c:Int,0≤c→c<cs.length→DOk (cat cs c)∧(cat cs c).id=c
 hi:HI k h
 good:∀ m∈way,GM cs.length h.E.length m
 li:∀ n,n<h.E.length→LS cs h way (last n) n
 q:∀ n,n<h.E.length→∀ m∈(entOf h.E n).q,m.src<cs.length
 z:∀ c:Int,0≤c→c<cs.length→∀ n:Int,¬ (0≤n∧n<h.E.length)→(cvw (cat cs c) n).s=0∧(cvw (cat cs c) n).a=none∧(cvw (cat cs c) n).g=none
def Sd (m y:Msg):Prop:=∃ k dst b,y=sendM m k dst b∧(4≤k∧k≤10)∧(b=b16z∨8≤k)
theorem begin_sd {bs:List Int} {d:Ent} {m:Msg} (hk:1≤m.kind∧m.kind≤3):∀ y∈(beginF bs d m).2.2,Sd m y:=by
 unfold beginF
 dsimp only
 intro y hy
 split at hy
 ·simp at hy;exact ⟨7,_,_,hy,by decide,.inl rfl⟩
 ·split at hy
  ·simp at hy;exact ⟨_,_,_,hy,by omega,.inl rfl⟩
  ·split at hy
   ·split at hy
    ·simp at hy;exact ⟨10,_,_,hy,by decide,.inr (by decide)⟩
    ·obtain ⟨c,_,hc⟩:=List.mem_map.1 hy
     exact ⟨6,_,_,hc.symm,by decide,.inl rfl⟩
   ·split at hy
    ·simp at hy;exact ⟨9,_,_,hy,by decide,.inr (by decide)⟩
    ·simp at hy;exact ⟨8,_,_,hy,by decide,.inr (by decide)⟩
theorem drain_sd {n:Int}:∀ (q:List Msg) (bs:List Int) (d:Ent),(∀ m∈q,ROk n m)→∀ y∈(drainF q bs d).2.2,∃ m,m.line=n∧Sd m y
 | [],bs,d,hq,y,hy=>by cases hy
 | m::r,bs,d,hq,y,hy=>by
  rw [drain_cons] at hy
  have hm:=hq m (List.mem_cons_self ..)
  split at hy
  ·cases hy
  ·rcases List.mem_append.1 hy with hy | hy
   ·exact ⟨m,hm.line,begin_sd hm.kind y hy⟩
   ·exact drain_sd r _ _ (fun x hx=>hq x (List.mem_cons_of_mem _ hx)) y hy
theorem other_sd {n:Int} {bs:List Int} {d:Ent} {m:Msg} (hm:m.line=n) (hq:∀ m∈d.q,ROk n m):∀ y∈(otherF bs d m).2.2,∃ m,m.line=n∧Sd m y:=by
 intro y hy
 unfold otherF at hy
 split at hy
 ·exact drain_sd d.q _ _ hq y hy
 ·split at hy
  ·dsimp only at hy
   split at hy
   ·simp at hy;exact ⟨m,hm,8,_,_,hy,by decide,.inr (by decide)⟩
   ·simp at hy;exact ⟨m,hm,10,_,_,hy,by decide,.inr (by decide)⟩
  ·split at hy
   ·simp at hy;exact ⟨m,hm,10,_,_,hy,by decide,.inr (by decide)⟩
   ·cases hy
theorem sd_chk {m y:Msg} (h:Sd m y) (hd:0≤y.dst∧y.dst<4):chk y=0:=by
 obtain ⟨k,dst,b,rfl,hk,hb⟩:=h
 have hd':0≤dst∧dst<4:=hd
 have h1:isCache dst=true:=by unfold isCache;simp;omega
 have h2:cacheK k=true:=by unfold cacheK;simp;omega
 have h3:(bytesK k || decide (b=bs0))=true:=by
  rcases hb with rfl | h
  ·simp [bs0]
  ·unfold bytesK;simp;omega
 show chk (mkM k 4 dst m.line b m.hn)=0
 unfold chk goodMsg mkM
 simp [h1,h2,h3]
theorem line_home {M:Int} {N:Nat} {m:Msg} (g:GM M N m) (hd:m.dst=4):(0≤m.src∧m.src<M)∧((1≤m.kind∧m.kind≤3)∨(11≤m.kind∧m.kind≤13)):=by
 obtain ⟨hh,_⟩:=chk_home g.chk hd
 unfold homeK at hh
 simp at hh
 rcases g.rng with ⟨_,h⟩ | ⟨h,_⟩
 ·exact ⟨h,by omega⟩
 ·exact absurd hd h
theorem other_ok {M:Int} {d:Ent} {mem cur:B16} {v:Int→CV} {R:List ER} {G:Int→List Bool} {P:Int→List B16} {A:Int→List Unit} {m:Msg} {n:Int} (h:LI M d mem cur v (er m++R) G P A) (hi:EI n d) (hk:11≤m.kind∧m.kind≤13):strayF d m=false:=by
 obtain ⟨R',sv,hp,hph,ht⟩:=h.ph
 have he:er m=[(m.kind,m.src,if m.kind=11 then m.bs else b16z)]:=er_one rfl (by omega) (if_neg (by omega)) (by
  by_cases e:m.kind=11
  ·rw [if_pos (by omega),if_pos e]
  ·rw [if_neg (by omega),if_neg e])
 rw [he] at hp
 have one:∀ {k z:Int} {b:B16},([(m.kind,m.src,if m.kind=11 then m.bs else b16z)]++R).Perm [(k,z,b)]→m.kind=k∧m.src=z:=fun h=>by
  have:=(perm_cons_one h).1
  simp only [Prod.mk.injEq] at this
  exact ⟨this.1,this.2.1⟩
 unfold strayF
 cases hph with
 | idleO a=>exact absurd hp.length_eq (by simp)
 | idleS a=>exact absurd hp.length_eq (by simp)
 | fwd a=>have:=(one hp).1;have:=hi.ok.kind a;omega
 | back a b c e f g i=>obtain ⟨h1,h2⟩:=one hp;simp [a,h1,h2,e]
 | drops C a b c e f g i j k l=>
  obtain ⟨x,hx,hx'⟩:=List.mem_map.1 (er_in hp)
  simp only [Prod.mk.injEq] at hx'
  obtain ⟨k1,k2,k3⟩:=k x hx
  have h12:m.kind=12:=by
   have:=hx'.1
   by_cases h2:x.2=true <;> simp [h2] at this <;> omega
  rw [hx'.2.1] at k1 k2
  simp [a,h12,k1,k2]
  omega
 | dataO k a b c e f g=>have:=(one hp).1;omega
 | dataS a=>have:=(one hp).1;omega
 | doneO a b=>obtain ⟨h1,h2⟩:=one hp;simp [a,b,h1,h2]
 | doneS a b=>obtain ⟨h1,h2⟩:=one hp;simp [a,b,h1,h2]
theorem SI.home {cs:List CD} {h:HD} {way rest:List Msg} {last:Nat→B16} {k:Nat} {m:Msg} (s:SI cs h way last k) (hp:way.Perm (m::rest)) (hd:m.dst=4) :
  (takeH h m).2.2=0∧SI cs (takeH h m).1 (rest++(takeH h m).2.1) last (k+1):=by
 have hg:=s.good m (hp.symm.subset (List.mem_cons_self ..))
 obtain ⟨hsrc,hk⟩:=line_home hg hd
 have hln:=hg.line
 have hmn:=m.hn
 have hline:m.line=((m.line.toNat:Nat):Int):=by omega
 obtain ⟨e1,e2,e3⟩:=s.hi.2 _ hln
 have hM:(cs.length:Int)≤4:=by have:=s.len;omega
 have hbl:m.line.toNat<h.bs.length/16:=by rw [← s.hi.1];exact hln
 have hrest:∀ x∈rest,GM cs.length h.E.length x:=fun x hx=>s.good x (hp.symm.subset (List.mem_cons_of_mem _ hx))
 have hpf:∀ n:Int,(wn n way).Perm (wn n (m::rest)):=fun n=>hp.filter _
 have hL:LI cs.length (entOf h.E m.line.toNat) (lineB h.bs m.line.toNat) (last m.line.toNat) (vw cs m.line.toNat) (er m++(wn m.line.toNat rest).flatMap er) (fun c=>(gt c m++(wn m.line.toNat rest).flatMap (gt c))++(entOf h.E m.line.toNat).q.flatMap (gt c)) (fun c=>(pt c m++(wn m.line.toNat rest).flatMap (pt c))++(entOf h.E m.line.toNat).q.flatMap (pt c)) (fun c=>kt c m++(wn m.line.toNat rest).flatMap (kt c)):=by
  have h1:=(s.li _ hln).perm (hpf _)
  unfold LS at h1
  rw [wn_cons,if_pos hline] at h1
  exact h1
 have hkt:∀ c,kt c m=[]:=fun c=>kt_no (by omega)
 have hkt':(fun c=>kt c m++(wn m.line.toNat rest).flatMap (kt c))=fun c=>(wn m.line.toNat rest).flatMap (kt c):=by funext c;rw [hkt];rfl
 rw [hkt'] at hL
 have hz:(takeH h m).2.2=0:=by
  refine take_zero hg.chk hd hln fun h3=>?_
  exact other_ok hL e1 (by omega)
 refine ⟨hz,?_⟩
 have hI:=s.hi.take m
 have hoth:∀ n:Nat,n<h.E.length→n≠m.line.toNat→entOf (takeH h m).1.E n=entOf h.E n∧lineB (takeH h m).1.bs n=lineB h.bs n:=fun n hn hne=>by
  have:=take_other s.hi (m:=m) (k:=((n:Nat):Int)) (by omega) (by rw [Int.toNat_natCast];exact hn) (by omega)
  rw [Int.toNat_natCast] at this
  exact this
 rcases take_cases h m with ⟨e,he,hne⟩ | ⟨_,_,_,_,_,x,hx,hcs⟩
 ·rw [he] at hz;exact absurd hz hne
 rw [hx] at hI hoth ⊢
 have hE:(h.E.set m.line.toNat x.1).length=h.E.length:=List.length_set
 have fin:LI cs.length x.1 (lineB x.2.1 m.line.toNat) (last m.line.toNat) (vw cs m.line.toNat) ((wn m.line.toNat rest).flatMap er++x.2.2.flatMap er) (fun c=>(wn m.line.toNat rest).flatMap (gt c)++x.1.q.flatMap (gt c)) (fun c=>(wn m.line.toNat rest).flatMap (pt c)++x.1.q.flatMap (pt c)) (fun c=>(wn m.line.toNat rest).flatMap (kt c)++x.2.2.flatMap (kt c)) →
   (∀ y∈x.2.2,y.line=((m.line.toNat:Nat):Int)∧(4≤y.kind∧y.kind≤10)∧(0≤y.dst∧y.dst<cs.length))→(∀ y∈x.2.2,∃ m',Sd m' y)→(∀ z∈x.1.q,z.src<cs.length)→SI cs ⟨x.2.1,h.E.set m.line.toNat x.1⟩ (rest++x.2.2) last (k+1):=by
  intro h1 h2 h3 h4
  have hout:∀ y∈x.2.2,y.line=((m.line.toNat:Nat):Int):=fun y hy=>(h2 y hy).1
  refine ⟨s.len,s.ok,hI,?_,?_,?_,fun c h0 h1 n hn=>s.z c h0 h1 n (by rw [← hE];exact hn)⟩
  ·intro y hy
   show GM cs.length (h.E.set m.line.toNat x.1).length y
   rw [hE]
   rcases List.mem_append.1 hy with hy | hy
   ·exact hrest y hy
   ·obtain ⟨a,b,c⟩:=h2 y hy
    obtain ⟨m',hs'⟩:=h3 y hy
    exact ⟨by rw [a,Int.toNat_natCast];exact hln,sd_chk hs' (by omega),.inr ⟨by omega,c,b⟩⟩
  ·intro n hn
   replace hn:n<h.E.length:=by rw [← hE];exact hn
   by_cases e:n=m.line.toNat
   ·subst e
    unfold LS
    show LI cs.length (entOf (h.E.set m.line.toNat x.1) m.line.toNat) (lineB x.2.1 m.line.toNat) _ _ _ (fun c=>_++(entOf (h.E.set m.line.toNat x.1) m.line.toNat).q.flatMap (gt c)) (fun c=>_++(entOf (h.E.set m.line.toNat x.1) m.line.toNat).q.flatMap (pt c)) _
    rw [entOf_set hln,if_pos rfl,wn_app,wn_all hout]
    refine h1.perm (by rw [List.flatMap_append]) (fun c=>?_) (fun c=>?_) (fun c=>by rw [List.flatMap_append])
    ·have:x.2.2.flatMap (gt c)=[]:=by
      rw [List.flatMap_eq_nil_iff]
      exact fun y hy=>gt_no (by have:=(h2 y hy).2.1;rintro ⟨_,h | h⟩ <;> omega)
     rw [List.flatMap_append,this,List.append_nil]
    ·have:x.2.2.flatMap (pt c)=[]:=by
      rw [List.flatMap_eq_nil_iff]
      exact fun y hy=>pt_no (by have:=(h2 y hy).2.1;rintro ⟨_,h⟩;omega)
     rw [List.flatMap_append,this,List.append_nil]
   ·obtain ⟨o1,o2⟩:=hoth n hn e
    have h5:=(s.li n hn).perm (hpf n)
    unfold LS at h5 ⊢
    rw [wn_cons,if_neg (by omega)] at h5
    rw [o1,o2,wn_app,wn_none hout (by omega),List.append_nil]
    exact h5
  ·intro n hn z hz'
   replace hn:n<h.E.length:=by rw [← hE];exact hn
   by_cases e:n=m.line.toNat
   ·subst e
    have hz2:z∈(entOf (h.E.set m.line.toNat x.1) m.line.toNat).q:=hz'
    rw [entOf_set hln,if_pos rfl] at hz2
    exact h4 z hz2
   ·rw [(hoth n hn e).1] at hz'
    exact s.q n hn z hz'
 have hqs:=s.q _ hln
 rcases hcs with ⟨a,b,c,rfl⟩ | ⟨a,b,c,rfl⟩ | ⟨a,b,rfl⟩
 ·have her:er m=[]:=by unfold er;rw [if_neg (by omega)]
  rw [her,List.nil_append] at hL
  refine fin ?_ (fun y hy=>by cases hy) (fun y hy=>by cases hy) fun z hz'=>?_
  ·refine (hL.q ((entOf h.E m.line.toNat).q++[m])).perm (by show List.Perm _ (_++[]);rw [List.append_nil]) (fun c=>?_) (fun c=>?_) (fun c=>by show List.Perm _ (_++[]);rw [List.append_nil])
   ·show List.Perm _ (_++((entOf h.E m.line.toNat).q++[m]).flatMap (gt c))
    rw [List.flatMap_append,List.flatMap_cons,List.flatMap_nil,List.append_nil,← List.append_assoc]
    exact (List.append_assoc _ _ _ ▸ List.perm_append_comm)
   ·show List.Perm _ (_++((entOf h.E m.line.toNat).q++[m]).flatMap (pt c))
    rw [List.flatMap_append,List.flatMap_cons,List.flatMap_nil,List.append_nil,← List.append_assoc]
    exact (List.append_assoc _ _ _ ▸ List.perm_append_comm)
  ·rcases List.mem_append.1 (show z∈(entOf h.E m.line.toNat).q++[m] from hz') with h | h
   ·exact hqs z h
   ·simp at h;subst h;exact hsrc.2
 ·have her:er m=[]:=by unfold er;rw [if_neg (by omega)]
  rw [her,List.nil_append] at hL
  have hR:=(hL.idle c).1
  rw [hR] at hL fin
  have hm:ROk ((m.line.toNat:Nat):Int) m:=⟨⟨a,b⟩,⟨hsrc.1,by omega⟩,hline⟩
  obtain ⟨b1,b2⟩:=begin_any (bs:=h.bs) (m:=m) (GW:=fun c=>(wn m.line.toNat rest).flatMap (gt c)) (PW:=fun c=>(wn m.line.toNat rest).flatMap (pt c)) (q:=(entOf h.E m.line.toNat).q) (hL.perm (List.Perm.refl _) (fun c=>by rw [← List.append_assoc];exact List.Perm.append_right _ List.perm_append_comm) (fun c=>by rw [← List.append_assoc];exact List.Perm.append_right _ List.perm_append_comm) (fun c=>List.Perm.refl _)) hM e1 c hm hsrc.2 (by omega) (by omega)
  refine fin ?_ b2 (fun y hy=>⟨m,begin_sd ⟨a,b⟩ y hy⟩) (by rw [begin_q];exact hqs)
  rw [begin_q]
  exact b1
 ·have hgt:∀ c,gt c m=[]:=fun c=>gt_no (by rintro ⟨_,h | h⟩ <;> omega)
  have hpt:∀ c,pt c m=[]:=fun c=>pt_no (by rintro ⟨_,h⟩;omega)
  have hL':=hL.perm (List.Perm.refl _) (G':=fun c=>(wn m.line.toNat rest).flatMap (gt c)++(entOf h.E m.line.toNat).q.flatMap (gt c)) (P':=fun c=>(wn m.line.toNat rest).flatMap (pt c)++(entOf h.E m.line.toNat).q.flatMap (pt c)) (fun c=>by rw [hgt];exact List.Perm.refl _) (fun c=>by rw [hpt];exact List.Perm.refl _) (fun c=>List.Perm.refl _)
  obtain ⟨b1,b2,b3⟩:=other_li (bs:=h.bs) (m:=m) hL' hM e1 hqs (by omega) hline (by omega) (by omega)
  refine fin b1 b2 (fun y hy=>?_) b3
  obtain ⟨m',_,hs'⟩:=other_sd hline e1.ok.rest y hy
  exact ⟨m',hs'⟩
theorem SI.upd1 {cs:List CD} {h:HD} {way W:List Msg} {last last':Nat→B16} {k:Nat} (s:SI cs h way last k) {c:Int} (h0:0≤c) (h1:c<cs.length) {d':CD} (hd:DOk d') (hid:d'.id=c) {n0:Nat} (hn0:n0<h.E.length) (hlast:∀ n,n≠n0→last' n=last n) (hW:∀ n:Nat,n≠n0→(wn n way).Perm (wn n W)) (hg:∀ m∈W,GM cs.length h.E.length m) (hcv:∀ n:Int,n≠n0→cvw d' n=cvw (cat cs c) n)
  (hL:LI cs.length (entOf h.E n0) (lineB h.bs n0) (last' n0) (updC (vw cs n0) c (cvw d' n0)) ((wn n0 W).flatMap er) (fun z=>(wn n0 W).flatMap (gt z)++(entOf h.E n0).q.flatMap (gt z)) (fun z=>(wn n0 W).flatMap (pt z)++(entOf h.E n0).q.flatMap (pt z)) (fun z=>(wn n0 W).flatMap (kt z))):SI (cs.set c.toNat d') h W last' k:=by
 have hlen:(cs.set c.toNat d').length=cs.length:=List.length_set
 refine ⟨by rw [hlen];exact s.len,fun z z0 z1=>?_,s.hi,by rw [hlen];exact hg,fun n hn=>?_,by rw [hlen];exact s.q,fun z z0 z1 n hn=>?_⟩
 ·rw [hlen] at z1
  rw [cat_set h0 h1]
  split
  ·rename_i e;rw [e];exact ⟨hd,hid⟩
  ·exact s.ok z z0 z1
 ·unfold LS
  rw [hlen,vw_set h0 h1]
  by_cases e:n=n0
  ·subst e;exact hL
  ·rw [hlast n e,hcv n (by omega),show cvw (cat cs c) n=vw cs n c from rfl,upd_self]
   exact (s.li n hn).perm (hW n e)
 ·rw [hlen] at z1
  rw [cat_set h0 h1]
  split
  ·rw [hcv n (by omega)];exact s.z c h0 h1 n hn
  ·exact s.z z z0 z1 n hn
theorem GM_back {M c:Int} {N:Nat} {n:Int} {b:B16} {h:0≤n∧n<4294967296} {k:Int} (hn:n.toNat<N) (hc:0≤c∧c<M) (hM:M≤4) (hk:(k=11)∨((k=12∨k=13∨k=1∨k=2)∧b=b16z)∨k=3):GM M N (mkM k c 4 n b h):=by
 refine ⟨hn,?_,.inl ⟨rfl,hc⟩⟩
 have h1:isCache c=true:=by unfold isCache;simp;omega
 unfold chk goodMsg mkM
 rcases hk with rfl | ⟨rfl | rfl | rfl | rfl,rfl⟩ | rfl <;> simp [h1,homeK,bytesK,bs0]
theorem SI.atl {cs:List CD} {h:HD} {way rest:List Msg} {last:Nat→B16} {k:Nat} {m:Msg} (s:SI cs h way last k) (hp:way.Perm (m::rest)) (hd:m.dst≠4) :
  (0≤m.dst∧m.dst<cs.length)∧(4≤m.kind∧m.kind≤10)∧m.line.toNat<h.E.length∧LI cs.length (entOf h.E m.line.toNat) (lineB h.bs m.line.toNat) (last m.line.toNat) (vw cs m.line.toNat) (er m++(wn m.line.toNat rest).flatMap er) (fun c=>(wn m.line.toNat rest).flatMap (gt c)++(entOf h.E m.line.toNat).q.flatMap (gt c)) (fun c=>(wn m.line.toNat rest).flatMap (pt c)++(entOf h.E m.line.toNat).q.flatMap (pt c)) (fun c=>kt c m++(wn m.line.toNat rest).flatMap (kt c)):=by
 have hg:=s.good m (hp.symm.subset (List.mem_cons_self ..))
 obtain ⟨hrng,hk⟩:(0≤m.dst∧m.dst<cs.length)∧(4≤m.kind∧m.kind≤10):=by
  rcases hg.rng with ⟨h,_⟩ | ⟨_,h⟩
  ·exact absurd h hd
  ·exact h
 have hln:=hg.line
 have hmn:=m.hn
 have hline:m.line=((m.line.toNat:Nat):Int):=by omega
 have hpf:∀ n:Int,(wn n way).Perm (wn n (m::rest)):=fun n=>hp.filter _
 have hgt:∀ c,gt c m=[]:=fun c=>gt_no (by rintro ⟨_,h | h⟩ <;> omega)
 have hpt:∀ c,pt c m=[]:=fun c=>pt_no (by rintro ⟨_,h⟩;omega)
 refine ⟨hrng,hk,hln,?_⟩
 have h1:=(s.li _ hln).perm (hpf _)
 unfold LS at h1
 rw [wn_cons,if_pos hline] at h1
 refine h1.perm (List.Perm.refl _) (fun c=>?_) (fun c=>?_) (fun c=>List.Perm.refl _)
 ·rw [List.flatMap_cons,hgt];exact List.Perm.refl _
 ·rw [List.flatMap_cons,hpt];exact List.Perm.refl _
theorem SI.cache {cs:List CD} {h:HD} {way rest:List Msg} {last:Nat→B16} {k:Nat} {m:Msg} (s:SI cs h way last k) (hp:way.Perm (m::rest)) (hd:m.dst≠4) :
  (0≤m.dst∧m.dst<cs.length)∧(takeF (cat cs m.dst) m).2.2=0∧SI (cs.set m.dst.toNat (takeF (cat cs m.dst) m).1) h (rest++(takeF (cat cs m.dst) m).2.1) last k:=by
 have hg:=s.good m (hp.symm.subset (List.mem_cons_self ..))
 obtain ⟨hrng,hk,hln,hL⟩:=s.atl hp hd
 refine ⟨hrng,?_⟩
 have hmn:=m.hn
 have hline:m.line=((m.line.toNat:Nat):Int):=by omega
 obtain ⟨e1,e2,e3⟩:=s.hi.2 _ hln
 have hM:(cs.length:Int)≤4:=by have:=s.len;omega
 have hrest:∀ x∈rest,GM cs.length h.E.length x:=fun x hx=>s.good x (hp.symm.subset (List.mem_cons_of_mem _ hx))
 obtain ⟨hdo,hid⟩:=s.ok m.dst hrng.1 hrng.2
 have hto:m.dst=(cat cs m.dst).id:=hid.symm
 have hpf:∀ n:Int,(wn n way).Perm (wn n (m::rest)):=fun n=>hp.filter _
 have hW:∀ (out:List Msg),(∀ y∈out,y.line=((m.line.toNat:Nat):Int))→∀ n:Nat,n≠m.line.toNat→(wn n way).Perm (wn n (rest++out)):=by
  intro out ho n hne
  rw [wn_app,wn_none ho (by omega),List.append_nil]
  have:=hpf n
  rwa [wn_cons,if_neg (by omega)] at this
 have hDT:=hdo.take m
 -- an answer goes home
 have fin:∀ (d':CD) (kk:Int) (b:B16),DOk d'→d'.id=m.dst→(kk=11∨((kk=12∨kk=13)∧b=b16z))→(∀ n:Int,n≠((m.line.toNat:Nat):Int)→cvw d' n=cvw (cat cs m.dst) n)→LI cs.length (entOf h.E m.line.toNat) (lineB h.bs m.line.toNat) (last m.line.toNat) (updC (vw cs m.line.toNat) m.dst (cvw d' m.line.toNat)) ((kk,m.dst,b)::(wn m.line.toNat rest).flatMap er) (fun c=>(wn m.line.toNat rest).flatMap (gt c)++(entOf h.E m.line.toNat).q.flatMap (gt c)) (fun c=>(wn m.line.toNat rest).flatMap (pt c)++(entOf h.E m.line.toNat).q.flatMap (pt c)) (fun c=>(wn m.line.toNat rest).flatMap (kt c)) →
   SI (cs.set m.dst.toNat d') h (rest++[mkM kk m.dst 4 m.line b m.hn]) last k:=by
  intro d' kk b h1 h2 h3 h4 h5
  have hol:∀ y∈[mkM kk m.dst 4 m.line b m.hn],y.line=((m.line.toNat:Nat):Int):=fun y hy=>by simp at hy;subst hy;exact hline
  refine s.upd1 hrng.1 hrng.2 h1 h2 (n0:=m.line.toNat) hln (fun _ _=>rfl) (hW _ hol) (fun y hy=>?_) h4 ?_
  ·rcases List.mem_append.1 hy with hy | hy
   ·exact hrest y hy
   ·simp at hy;subst hy;exact GM_back hln hrng hM (by rcases h3 with h | ⟨h,e⟩;exact .inl h;exact .inr (.inl ⟨by omega,e⟩))
  ·rw [wn_app,wn_all hol]
   refine h5.perm ?_ (fun c=>?_) (fun c=>?_) (fun c=>?_)
   ·have:er (mkM kk m.dst 4 m.line b m.hn)=[(kk,m.dst,b)]:=by
     rcases h3 with rfl | ⟨rfl | rfl,rfl⟩ <;> rfl
    rw [List.flatMap_append,List.flatMap_cons,this]
    exact List.perm_append_comm (l₁:=[_])
   ·rw [List.flatMap_append,List.flatMap_cons,gt_no (by rintro ⟨_,h | h⟩ <;> (have h:kk=_:=h;omega))];simp
   ·rw [List.flatMap_append,List.flatMap_cons,pt_no (by rintro ⟨_,h⟩;have h:kk=3:=h;omega)];simp
   ·rw [List.flatMap_append,List.flatMap_cons,kt_no (by show kk≠7;omega)];simp
 have hkd:=e1.ok.kind
 by_cases h8:m.kind=8∨m.kind=9∨m.kind=10
 ·have hkt:∀ c,kt c m=[]:=fun c=>kt_no (by omega)
  obtain ⟨_,ha,hgn,hbs,hli⟩:=data_li (m:=m) (hL.perm (List.Perm.refl _) (fun c=>List.Perm.refl _) (fun c=>List.Perm.refl _) (fun c=>by rw [hkt])) h8 hkd rfl _ rfl
  have ha':avw (cat cs m.dst).ask m.line=some (decide (m.kind=10)):=by rw [hline];exact ha
  obtain ⟨t1,t2⟩:=take_data hdo hg.chk hto h8 ha'
  rw [t1] at hDT ⊢
  refine ⟨rfl,?_⟩
  rw [show (cat cs m.dst).id=m.dst from hid] at *
  refine fin _ 13 b16z hDT hid (.inr ⟨.inr rfl,rfl⟩) (fun n hn=>?_) ?_
  ·rw [t2,if_neg (by omega)]
  ·rw [t2,if_pos hline.symm]
   exact hli
 by_cases h4:m.kind=4∨m.kind=5
 ·have hkt:∀ c,kt c m=[]:=fun c=>kt_no (by omega)
  obtain ⟨_,hsh⟩:=share_li (m:=m) (hL.perm (List.Perm.refl _) (fun c=>List.Perm.refl _) (fun c=>List.Perm.refl _) (fun c=>by rw [hkt])) h4 hkd rfl b16z
  rcases hsh with ⟨hgv,hli⟩ | ⟨hgn,hw,hbc,hli⟩
  ·have hgv':gvw (cat cs m.dst).giv m.line=some (last m.line.toNat):=by rw [hline];exact hgv
   have t1:=take_share_g hg.chk hto h4 hgv'
   rw [t1]
   refine ⟨rfl,?_⟩
   rw [show (cat cs m.dst).id=m.dst from hid]
   refine fin _ 11 _ hdo hid (.inl rfl) (fun n hn=>rfl) ?_
   rw [show cvw (cat cs m.dst) m.line.toNat=vw cs m.line.toNat m.dst from rfl,upd_self]
   exact hli
  ·have hgn':gvw (cat cs m.dst).giv m.line=none:=by rw [hline];exact hgn
   have hw':wr (stateOf (cat cs m.dst).L m.line):=by rw [hline];exact hw
   obtain ⟨L',t1,t2⟩:=take_share_w hg.chk hto h4 hgn' hw'
   rw [t1] at hDT ⊢
   refine ⟨rfl,?_⟩
   rw [show (cat cs m.dst).id=m.dst from hid] at *
   have hb9:bvw (cat cs m.dst).L m.line=last m.line.toNat:=by rw [hline];exact hbc
   rw [hb9] at t2 ⊢
   refine fin _ 11 _ hDT hid (.inl rfl) (fun n hn=>?_) ?_
   ·rw [t2,if_neg (by omega)]
   ·rw [t2,if_pos hline.symm]
    exact hli
 by_cases h6:m.kind=6
 ·have hkt:∀ c,kt c m=[]:=fun c=>kt_no (by omega)
  obtain ⟨_,hnw,hli⟩:=drop_li (m:=m) (hL.perm (List.Perm.refl _) (fun c=>List.Perm.refl _) (fun c=>List.Perm.refl _) (fun c=>by rw [hkt])) h6 hkd rfl b16z
  have hnw':¬ wr (stateOf (cat cs m.dst).L m.line):=by rw [hline];exact hnw
  obtain ⟨t1,t2⟩:=take_drop hg.chk hto h6 hnw'
  rw [t1] at hDT ⊢
  refine ⟨rfl,?_⟩
  rw [show (cat cs m.dst).id=m.dst from hid] at *
  refine fin _ 12 b16z hDT hid (.inr ⟨.inl rfl,rfl⟩) (fun n hn=>?_) ?_
  ·rw [t2,if_neg (by omega)]
  ·rw [t2,if_pos hline.symm]
   exact hli
 ·have h7:m.kind=7:=by omega
  have her:er m=[]:=by unfold er;rw [if_neg (by omega)]
  rw [her,List.nil_append] at hL
  have hk1:kt m.dst m=[()]:=by unfold kt;rw [if_pos ⟨rfl,h7⟩]
  obtain ⟨hgn,hli⟩:=acked_li hL hrng (l:=(wn m.line.toNat rest).flatMap (kt m.dst)) (by show kt m.dst m++_=_;rw [hk1];rfl)
  have hgn':gvw (cat cs m.dst).giv m.line≠none:=by rw [hline];exact hgn
  obtain ⟨t1,t2⟩:=take_acked hg.chk hto h7 hgn'
  rw [t1] at hDT ⊢
  refine ⟨rfl,?_⟩
  rw [show (rest++({ cat cs m.dst with giv:=none },([]:List Msg),(0:Int)).2.1)=rest from List.append_nil _]
  refine s.upd1 hrng.1 hrng.2 hDT hid (n0:=m.line.toNat) hln (fun _ _=>rfl) (fun n hn=>?_) hrest (fun n hn=>?_) ?_
  ·have:=hW [] (fun y hy=>by cases hy) n hn
   rwa [List.append_nil] at this
  ·rw [t2,if_neg (by omega)]
  ·rw [t2,if_pos hline.symm]
   refine hli.perm (List.Perm.refl _) (fun c=>List.Perm.refl _) (fun c=>List.Perm.refl _) (fun c=>?_)
   unfold put1
   by_cases e:c=m.dst
   ·subst e;rw [if_pos rfl]
   ·rw [if_neg e]
    show (kt c m++_).Perm _
    rw [show kt c m=[] from if_neg fun h=>e h.1.symm]
    exact List.Perm.refl _
theorem perm_mid {α:Type} (A Q B:List α):((A++Q)++B).Perm ((A++B)++Q):=by
 rw [List.append_assoc,List.append_assoc]
 exact List.Perm.append_left _ List.perm_append_comm
theorem set_cat {cs:List CD} {c:Int} (h0:0≤c):cs.set c.toNat (cat cs c)=cs:=by
 unfold cat
 rw [if_pos h0]
 apply List.ext_getElem?
 intro i
 rw [List.getElem?_set]
 split
 ·rename_i e
  subst e
  split
  ·rename_i hl
   simp [List.getD,hl]
  ·rename_i hl
   simp at hl
   simp [hl]
 ·rfl
section
variable {cs:List CD} {h:HD} {way:List Msg} {last:Nat→B16} {k:Nat} {c:Int}
theorem SI.keep (s:SI cs h way last k) (h0:0≤c) {d:CD} (hd:d=cat cs c):SI (cs.set c.toNat d) h (way++[]) last k:=by
 rw [hd,set_cat h0,List.append_nil];exact s
theorem SI.low (s:SI cs h way last k) (h0:0≤c) (h1:c<cs.length) {n:Int} (hn:0≤n) (hs:stateOf (cat cs c).L n≠0):n.toNat<h.E.length:=by
 refine Nat.lt_of_not_le fun hle=>hs ?_
 exact (s.z c h0 h1 n (by omega)).1
theorem SI.out (s:SI cs h way last k) (h0:0≤c) (h1:c<cs.length) {x:Ln} (hx:x∈(cat cs c).L):SI (cs.set c.toNat (outF (cat cs c) x).1) h (way++(outF (cat cs c) x).2.1) last k:=by
 obtain ⟨hdo,hid⟩:=s.ok c h0 h1
 have hrg:=hdo.st x hx
 have hst:stateOf (cat cs c).L x.num=x.state:=by unfold stateOf;rw [get_mem hdo.uniq hx];rfl
 have hxn:=x.hn
 have hN:=s.low h0 h1 (n:=x.num) hxn.1 (by omega)
 have hn:x.num=((x.num.toNat:Nat):Int):=by omega
 have hl:=s.li _ hN
 unfold LS at hl
 have hD:=hdo.out x
 have hM:(cs.length:Int)≤4:=by have:=s.len;omega
 rcases out_cases hdo hx with ⟨a,e,f⟩ | ⟨a,b,g,e,f⟩ | ⟨e1,e2,e3⟩
 ·rw [e] at hD ⊢
  dsimp only
  rw [List.append_nil]
  refine s.upd1 h0 h1 hD hid hN (fun _ _=>rfl) (fun _ _=>List.Perm.refl _) s.good (fun j hj=>?_) ?_
  ·rw [f,if_neg (by omega)]
  ·rw [f,if_pos hn.symm]
   exact outS_li hl ⟨h0,h1⟩ (by show stateOf _ _=1;rw [← hn];exact a) b16z
 ·rw [e] at hD ⊢
  dsimp only
  rw [show putM (cat cs c).id x=putM c x by rw [hid]]
  have hol:∀ y∈[putM c x],y.line=((x.num.toNat:Nat):Int):=fun y hy=>by simp at hy;subst hy;exact hn
  refine s.upd1 h0 h1 hD hid hN (fun _ _=>rfl) (fun j hj=>?_) (fun y hy=>?_) (fun j hj=>?_) ?_
  ·rw [wn_app,wn_none hol (by omega),List.append_nil]
  ·rcases List.mem_append.1 hy with hy | hy
   ·exact s.good y hy
   ·simp at hy;subst hy;exact GM_back hN ⟨h0,h1⟩ hM (.inr (.inr rfl))
  ·rw [f,if_neg (by omega)]
  ·rw [f,if_pos hn.symm,wn_app,wn_all hol]
   have:=outW_li hl ⟨h0,h1⟩ (by show wr (stateOf _ _);rw [← hn];exact a) b16z
   rw [show (vw cs ((x.num.toNat:Nat):Int) c).b=x.bs by show bvw _ _=_;rw [← hn];exact g] at this
   refine this.perm ?_ (fun z=>?_) (fun z=>?_) (fun z=>?_)
   ·rw [List.flatMap_append]
    show List.Perm _ (_++[])
    rw [List.append_nil]
   ·rw [List.flatMap_append,List.flatMap_cons,gt_no (by rintro ⟨_,h | h⟩ <;> (have h:(3:Int)=_:=h;omega))];simp
   ·rw [List.flatMap_append]
    unfold put1
    by_cases ez:z=c
    ·subst ez
     rw [if_pos rfl]
     show List.Perm _ (_++(pt z (putM z x)++[])++_)
     rw [show pt z (putM z x)=[x.bs] from if_pos ⟨rfl,rfl⟩]
     exact perm_mid _ _ _
    ·rw [if_neg ez]
     show List.Perm _ (_++(pt z (putM c x)++[])++_)
     rw [show pt z (putM c x)=[] from if_neg fun h=>ez h.1.symm]
     simp
   ·rw [List.flatMap_append,List.flatMap_cons,kt_no (by show (3:Int)≠7;decide)];simp
 ·rw [e2];exact s.keep h0 e1
theorem SI.ask0 (s:SI cs h way last k) (h0:0≤c) (h1:c<cs.length) {line:Int} (hl:0≤line∧line<4294967296) (hN:line.toNat<h.E.length) {w:Bool} {d':CD} (hD:DOk d') (e:d'={ cat cs c with ask:=some (line,w) }) (ha:(cat cs c).ask=none) (hm:mine (cat cs c).giv line=false) (hs:stateOf (cat cs c).L line=0∨(stateOf (cat cs c).L line=1∧w=true)) :
  SI (cs.set c.toNat d') h (way++[askM c line w hl]) last k:=by
 obtain ⟨hdo,hid⟩:=s.ok c h0 h1
 have hn:line=((line.toNat:Nat):Int):=by omega
 have hM:(cs.length:Int)≤4:=by have:=s.len;omega
 have hli:=s.li _ hN
 unfold LS at hli
 have hol:∀ y∈[askM c line w hl],y.line=((line.toNat:Nat):Int):=fun y hy=>by simp at hy;subst hy;exact hn
 have hav:avw (cat cs c).ask line=none:=by rw [ha];rfl
 have hgv:gvw (cat cs c).giv line=none:=by
  cases hg:(cat cs c).giv with
  | none=>rfl
  | some x=>
   rw [hg] at hm
   unfold gvw
   dsimp only
   rw [if_neg (by simpa [mine] using hm)]
 have hk:(askM c line w hl).kind=if w then 2 else 1:=rfl
 refine s.upd1 h0 h1 hD (by rw [e];exact hid) hN (fun _ _=>rfl) (fun j hj=>?_) (fun y hy=>?_) (fun j hj=>?_) ?_
 ·rw [wn_app,wn_none hol (by omega),List.append_nil]
 ·rcases List.mem_append.1 hy with hy | hy
  ·exact s.good y hy
  ·simp at hy;subst hy
   refine GM_back hN ⟨h0,h1⟩ hM (.inr (.inl ⟨?_,rfl⟩))
   cases w
   ·exact .inr (.inr (.inl rfl))
   ·exact .inr (.inr (.inr rfl))
 ·rw [e]
  unfold cvw
  dsimp only
  rw [ha]
  congr 1
  unfold avw
  dsimp only
  rw [if_neg (by omega)]
 ·have:=ask_li hli ⟨h0,h1⟩ (w:=w) (by show avw _ _=_;rw [← hn];exact hav) (by show gvw _ _=_;rw [← hn];exact hgv) (by show stateOf _ _=0∨(stateOf _ _=1∧_);rw [← hn];exact hs)
  have hcv:cvw d' ((line.toNat:Nat):Int)=⟨(vw cs ((line.toNat:Nat):Int) c).s,(vw cs ((line.toNat:Nat):Int) c).b,(vw cs ((line.toNat:Nat):Int) c).g,some w⟩:=by
   rw [e]
   unfold vw cvw
   dsimp only
   congr 1
   unfold avw
   dsimp only
   rw [if_pos hn]
  rw [hcv,wn_app,wn_all hol]
  refine this.perm ?_ (fun z=>?_) (fun z=>?_) (fun z=>?_)
  ·rw [List.flatMap_append,List.flatMap_cons,show er (askM c line w hl)=[] from if_neg (by rw [hk];cases w <;> simp)];simp
  ·rw [List.flatMap_append]
   unfold put1
   by_cases ez:z=c
   ·subst ez
    rw [if_pos rfl]
    show List.Perm _ (_++(gt z (askM z line w hl)++[])++_)
    rw [show gt z (askM z line w hl)=[w] from (if_pos ⟨rfl,by rw [hk];cases w <;> simp⟩).trans (by rw [hk];cases w <;> rfl)]
    exact perm_mid _ _ _
   ·rw [if_neg ez]
    show List.Perm _ (_++(gt z (askM c line w hl)++[])++_)
    rw [show gt z (askM c line w hl)=[] from if_neg fun h=>ez h.1.symm]
    simp
  ·rw [List.flatMap_append,List.flatMap_cons,pt_no (by rintro ⟨_,h⟩;rw [hk] at h;cases w <;> simp at h)];simp
  ·rw [List.flatMap_append,List.flatMap_cons,kt_no (by rw [hk];cases w <;> simp)];simp
theorem SI.ask (s:SI cs h way last k) (h0:0≤c) (h1:c<cs.length) {line:Int} (hl:0≤line∧line<4294967296) (hN:line.toNat<h.E.length) (w:Bool) (pick:Int) :
  SI (cs.set c.toNat (askF (cat cs c) line hl w pick).1) h (way++(askF (cat cs c) line hl w pick).2.1) last k:=by
 obtain ⟨hdo,hid⟩:=s.ok c h0 h1
 have hD:=hdo.ask line hl w pick
 revert hD
 unfold askF
 split
 ·exact fun _=>s.keep h0 rfl
 rename_i hA
 have hask:(cat cs c).ask=none:=by
  cases hx:(cat cs c).ask with
  | none=>rfl
  | some y=>exact absurd (.inl (by rw [hx];rfl)) hA
 have hmi:mine (cat cs c).giv line=false:=by
  cases hx:mine (cat cs c).giv line with
  | false=>rfl
  | true=>exact absurd (.inr hx) hA
 split
 ·exact fun _=>s.keep h0 rfl
 rename_i hS
 have hst:stateOf (cat cs c).L line=0∨(stateOf (cat cs c).L line=1∧w=true):=by
  rcases st_of hdo.st line with ⟨h,_⟩ | ⟨h,_⟩
  ·exact .inl h
  ·refine .inr ?_
   have hne:stateOf (cat cs c).L line≠0:=by omega
   have h3:w=true:=by
    cases w with
    | true=>rfl
    | false=>exact absurd ⟨hne,.inl rfl⟩ hS
   have h2:¬ writesB (stateOf (cat cs c).L line)=true:=fun hw=>hS ⟨hne,.inr hw⟩
   rw [wrb] at h2
   unfold wr at h2
   exact ⟨by omega,h3⟩
 split
 ·intro hD
  dsimp only
  rw [show askM (cat cs c).id line w hl=askM c line w hl by rw [hid]]
  exact s.ask0 h0 h1 hl hN hD rfl hask hmi hst
 ·rename_i x hv
  obtain ⟨v1,v2,_⟩:=vic_mem hdo.bd.2.2.1 hv
  have hx:x∈(cat cs c).L:=(List.mem_filter.1 v1).1
  split
  ·rename_i ho
   intro hD
   dsimp only at hD ⊢
   have s1:=s.out h0 h1 hx
   have hc1:cat (cs.set c.toNat (outF (cat cs c) x).1) c=(outF (cat cs c) x).1:=by rw [cat_set h0 h1,if_pos rfl]
   have hne:x.num≠line:=fun e=>by
    have:=get_mem hdo.uniq hx
    rw [e,v2] at this;cases this
   have hs0:stateOf (cat cs c).L line=0:=by unfold stateOf;rw [v2];rfl
   have f:(outF (cat cs c) x).1.ask=none∧mine (outF (cat cs c) x).1.giv line=false∧stateOf (outF (cat cs c) x).1.L line=0:=by
    rcases out_cases hdo hx with ⟨a,e,f⟩ | ⟨a,b,g,e,f⟩ | ⟨e1,e2,e3⟩
    ·rw [e]
     exact ⟨hask,hmi,by dsimp only;rw [state_drop,hs0];split <;> rfl⟩
    ·rw [e]
     exact ⟨hask,by simp [mine,hne],by dsimp only;rw [state_drop,hs0];split <;> rfl⟩
    ·rw [ho] at e3;cases e3
   have s2:=s1.ask0 (c:=c) h0 (by rw [List.length_set];exact h1) hl hN (w:=w) (d':={ (outF (cat cs c) x).1 with ask:=some (line,w) }) hD (by rw [hc1]) (by rw [hc1];exact f.1) (by rw [hc1];exact f.2.1) (by rw [hc1];exact .inl f.2.2)
   rw [List.set_set,List.append_assoc] at s2
   rw [show askM (cat cs c).id line w hl=askM c line w hl by rw [hid]]
   exact s2
  ·exact fun _=>s.keep h0 rfl
theorem mem_allL {n:Nat} {L:List Ln} {x:Ln} (h:x∈allL n L):x∈L:=by
 unfold allL at h
 obtain ⟨i,_,hi⟩:=List.mem_flatMap.1 h
 exact (List.mem_filter.1 hi).1
theorem SI.evict (s:SI cs h way last k) (h0:0≤c) (h1:c<cs.length) (pick:Int) :
  SI (cs.set c.toNat (evictF (cat cs c) pick).1) h (way++(evictF (cat cs c) pick).2) last k:=by
 obtain ⟨hdo,hid⟩:=s.ok c h0 h1
 unfold evictF
 split
 ·exact s.keep h0 rfl
 ·rename_i hL
  refine s.out h0 h1 (mem_allL (n:=(cat cs c).n) ?_)
  have hlen:=allL_len hdo.bd.1 (cat cs c).L
  have hp:pickAt pick (cat cs c).L.length<(allL (cat cs c).n (cat cs c).L).length:=by
   rw [hlen]
   exact pickAt_lt _ _ (List.length_pos_iff.2 hL)
  simp [List.getD,hp]
end
theorem cat_nat (cs:List CD) (n:Nat):cat cs (n:Int)=cs.getD n cd0:=by
 unfold cat
 rw [if_pos (by omega)]
 rfl
section
variable {cs:List CD} {h:HD} {way:List Msg} {last:Nat→B16} {k:Nat} {c:Int}
theorem SI.mono (s:SI cs h way last k) {k':Nat} (hk:k≤k'):SI cs h way last k':=⟨s.len,s.ok,s.hi.mono hk,s.good,s.li,s.q,s.z⟩
end
end Go.Proofs.YtpfijldkkfiooaaGreatDoor.Ch
