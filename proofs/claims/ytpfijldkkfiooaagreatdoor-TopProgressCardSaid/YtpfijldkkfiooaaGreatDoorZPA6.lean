/-
  Part 6 of what the claim stands on: walks through the code, plain laws.
-/
import Derived.Test.YtpfijldkkfiooaaGreatDoorZPA5
set_option linter.unusedVariables false
set_option linter.unusedSimpArgs false
namespace Go.Proofs.YtpfijldkkfiooaaGreatDoor
open Go
set_option maxRecDepth 4000
theorem Y8 (s ways:Int) (hs:s<1):Sp Tryz.prog 122 [.int .i64 s,.int .i64 ways] [] fun K=>K (.returned (.tuple #[.pointer none,.int .i64 2])) []:=by refine Zen Tryz.func122 U U U fun e X Φ hS=>Zsr<|Zb 2 U<|Aj<|Zb 2 U ?_;refine Zm U<|Zu' U U (dT hs) U<|Zu' U U (dT hs) U<|Zv (Ax U (dT hs) U)<|Zb 6 U ?_;refine Zb 9 U<|Znl ?_;refine Znx<|Zct U<|Zsr<|Zb 2 U<|Znr<|Zr1<|Zre (.t U (.t U .n)) hS [] 0 U U U U
theorem iM (i s ways:Int) (h0:0≤i) (h1:i<4) (hs:s<1):Sp Tryz.prog 75 [.int .i64 i,.int .i64 s,.int .i64 ways] [] fun K=>K (.returned (.tuple #[.pointer none,.int .i64 2])) []:=by refine Zen Tryz.func75 U U U fun e X Φ hS=>Zsr<|Zb 2 U<|Zns<|Zb 2 U ?_;refine Zk (Y8 s ways hs) [] U U<|Zq<|Zb 5 U<|Znq ?_;refine Zsr<|Zb 9 U ?_;refine Zv (ypt U U)<|Zn<|Zct U<|Zsr<|Zb 2 U<|Znr ?_;refine Zr1<|Zre (.t U (.t U .n)) hS [] 0 U U U U
theorem Q4 {s ways:Int} (h:BV s ways=true):1≤s:=by unfold BV Q1 at h;simp at h;omega
theorem Z6 (i s ways:Int) (h0:0≤i) (h1:i<4):Sp Tryz.prog 75 [.int .i64 i,.int .i64 s,.int .i64 ways] [] fun K=>(BV s ways=true→∀b,K (.returned (.tuple #[pt b,.int .i64 0])) [.hp (AK b (QO i s.toNat ways))])∧(BV s ways=false→K (.returned (.tuple #[.pointer none,.int .i64 2])) []):=by
 rcases(show s<1∨1≤s by omega) with h|h
 ·exact⟨fun e X w Φ hp hS=>(iM i s ways h0 h1 h).run e X w Φ hp (hS.2 (by
   cases hr:BV s ways with
   | true=>have:=Q4 hr;omega
   | false=>rfl))⟩
 ·have hn:s=((s.toNat:Nat):Int):=by omega
  have hc:=c75 i s.toNat ways h0 h1;rwa[←hn] at hc
def slE:Enc Tryz.prog (Option Addr × Nat × List Int) where
 T:=62
 n:=1
 cells:=fun x=>[.slice x.1 x.2.2.length x.2.1]
 len:=fun _=>rfl
 one:=fun x v hv=>by rw[List.mem_singleton] at hv;subst hv;rfl
 pos:=by decide
structure Cds (c:Ck) (A:Option Addr) (cap:Nat) (l:List (Option Addr × Nat × List Int)):Prop where
 r:Rd slE c A cap l
 w:∀x∈l,x.2.1≠0→Rd D5 c x.1 x.2.1 x.2.2
 z:∀x∈l,x.2.1=0→x.2.2=[]
 n:∀x∈l,x.1=none→x.2.2=[]∧x.2.1=0
 u:∀x∈l,∀a∈x.2.2,U32 a
abbrev BY (l:List (Option Addr × Nat × List Int)):List (List Int):=l.map (·.2.2)
def XT (i:Nat) (size:Int) (code:List Int):Cor:=⟨Fo i,code,size,[],0,none⟩
def Pi (sets ways:Int) (n:Nat):List CD:=(List.range n).map fun i=>QO (i:Nat) sets.toNat ways
def EF (cs:List (List Int)) (bs:List Int) (sets ways:Int):MD:=⟨(List.range cs.length).map fun i=>XT i (bs.length:Int) (cs.getD i []),Pi sets ways cs.length,1024,[],home0 bs⟩
def D1 (cs:List (List Int)) (sets ways:Int):Bool:=decide (1≤cs.length) && decide (cs.length≤4) && BV sets ways && cs.all fun c=>decide (c.length≤1024)
theorem XU {l:List (Option Addr × Nat × List Int)} {bs:List Int} {sets ways:Int} {i:Nat} (h:i<l.length):(EF (BY l) bs sets ways).C[i]? = some (XT i (bs.length:Int) l[i].2.2):=by show((List.range (BY l).length).map _)[i]? = _;rw[List.getElem?_map,List.getElem?_range (by rw[List.length_map];exact h)];simp[h]
theorem XV {l:List (Option Addr × Nat × List Int)} {bs:List Int} {sets ways:Int} {i:Nat} (h:i<l.length):(EF (BY l) bs sets ways).D[i]? = some (QO (i:Nat) sets.toNat ways):=by show((List.range (BY l).length).map _)[i]? = _;rw[List.getElem?_map,List.getElem?_range (by rw[List.length_map];exact h)];rfl
theorem KI {l:List (Option Addr × Nat × List Int)} {sets ways:Int} {i:Nat} (h:i<l.length) (hc:¬l[i].2.2.length≤1024):D1 (BY l) sets ways=false:=by
 cases hn:D1 (BY l) sets ways with
 | false=>rfl
 | true=>
  exfalso;unfold D1 at hn;simp only[Bool.and_eq_true,List.all_eq_true] at hn;exact hc (of_decide_eq_true (hn.2 _ (List.mem_map.2 ⟨l[i],List.getElem_mem h,rfl⟩)))
theorem QP {l:List (List Int)} {sets ways:Int} (h:BV sets ways=false):D1 l sets ways=false:=by unfold D1;rw[h];simp
theorem QQ {l:List (Option Addr × Nat × List Int)} {sets ways:Int} (h1:1≤l.length) (h4:l.length≤4) (hr:BV sets ways=true) (hc:∀(i:Nat) (h:i<l.length),l[i].2.2.length≤1024):D1 (BY l) sets ways=true:=by unfold D1;rw[hr];simp only[Bool.and_eq_true,List.all_eq_true,decide_eq_true_eq,List.length_map];refine⟨⟨⟨h1,h4⟩,trivial⟩,fun x hx=>?_⟩;obtain⟨y,hy,rfl⟩:=List.mem_map.1 hx;obtain⟨i,hi,rfl⟩:=List.getElem_of_mem hy;exact hc i hi
structure NwI (l:List (Option Addr × Nat × List Int)) (sets ways:Int) (c:Cpy):Prop where
 i:c.i≤l.length
 nb:c.nb.length=c.i
 nk:c.nk.length=c.i
 r:0<c.i→BV sets ways=true
 k:∀(j:Nat) (h:j<l.length),j<c.i→l[j].2.2.length≤1024
theorem c32 (c:Ck) (A:Option Addr) (cap:Nat) (l:List (Option Addr × Nat × List Int)) (bi:Nat) (bs:List Int) (sets ways:Int) (hC:Cds c A cap l) (hz:szF bs.length=false) (hr:∀a∈bs,0≤a∧a<256):Sp Tryz.prog 32 [.slice A l.length cap,pt bi,.int .i64 sets,.int .i64 ways] [.hp (Bx bi bs),c] fun K=>
  (D1 (BY l) sets ways=true→∀b,K (.returned (.tuple #[pt b,.int .i64 0])) [.hp (A4 0 b (EF (BY l) bs sets ways)),.hp (Bx bi bs),c])∧(D1 (BY l) sets ways=false→K (.returned (.tuple #[.pointer none,.int .i64 2])) [.hp (Bx bi bs),c]):=by
 obtain⟨z1,z2⟩:16≤bs.length∧bs.length≤4096:=by unfold szF at hz;simp only[Bool.or_eq_false_iff,decide_eq_false_iff_not] at hz;omega
 have hRc:=hC.r;have hmx:(1:Int)≤1024∧(1024:Int)≤1024:=by decide
 refine Zen Tryz.func32 U U U fun e X Φ hS=>Zsr<|Zb 2 U<|Zns<|Zm U ?_;refine Zk (c71 bi bs (by omega) (by omega) hr) [0] U U<|fun b'=>Zq<|Zb 5 U<|Zn ?_;refine Zsq<|Zsr<|Zb 2 U<|Zn<|Zcf U<|Zkn<|Zsq ?_;refine Zsr<|Zm U<|Zv (Aw ⟨_,Tryz.underlying22⟩ U)<|Zb 2 U<|Zgs U U (fun h30=>?_) (fun h30=>?_);refine Zu' U U (dT h30) U<|Zu' U U (dT h30) U<|Zu' U U (dT h30) U<|Zv (Ax U (dT h30) U)<|Zn<|Zct U<|Zsr<|Zb 2 U ?_;refine Znr<|Zr1 ?_;rotate_left
 refine Zg' U U (dF h30)<|Zm U<|Zg' U U (dF h30)<|Zv (Aw ⟨_,Tryz.underlying22⟩ U)<|Zg' U U (dF h30)<|Zv (ygt U U)<|Zv (Ao U (dF h30) U)<|Zn<|Zif U (fun h34=>?_) (fun h34=>?_);refine Zsr<|Zb 2 U<|Znr<|Zr1 ?_;rotate_left;refine Zks<|Zm U<|Zv (yb jI U)<|Ze (ebx U) fun b37=>Zw<|Zy U<|Zns ?_;refine Zm U ?_;rotate_left
 ·refine Zre (.t U (.t U .n)) (hS.2 (by unfold D1;rw[dF (by rw[List.length_map];omega)];rfl)) [1,1] 1 U U U U
 ·refine Zre (.t U (.t U .n)) (hS.2 (by unfold D1;rw[dF (p:=(BY l).length≤4) (by rw[List.length_map];omega)];simp)) [1,1] 1 U U U U
 ·refine Zk (c72 1024 hmx) [] U U<|fun b=>Zq<|Za 5 [2] U U<|Ze (es 1 U U U U U)<|Zw0<|Znl ?_;refine Zxq<|Zsr<|Zm U<|Zv (Aw ⟨_,Tryz.underlying22⟩ U)<|Zm U<|Znb ?_;refine Zic (fun _ hs=>Ag (E:=CT 74) hs) ?_;refine Zic (fun _ hs=>Ag (E:=CT 80) hs) ?_;refine Zic (fun _ hs=>JB (F:=fun x:Nat × Cor=>Br 0 x.1 x.2) hs) ?_;refine Zic (fun _ hs=>JB (F:=fun x:Nat × CD=>AK x.1 x.2) hs) ?_
  refine Zlq (ι:={ p:Cpy // NwI l sets ways p }) (fun p=>[(47,.int .i64 (p.1.i:Int)),(46,.int .i64 (l.length:Int)),(45,.slice A l.length cap),(1,pt bi),(2,.int .i64 sets),(3,.int .i64 ways),(12,pt b37)]) (fun p=>[.blk b37 108 [.slice p.1.A p.1.nb.length p.1.cap,.slice p.1.B p.1.nk.length p.1.capb,pt b,pt b'],.hp (own (CT 74) p.1.A p.1.cap p.1.nb),.hp (own (CT 80) p.1.B p.1.capb p.1.nk),.hp (BB 0 (p.1.nb.zip ((EF (BY l) bs sets ways).C.take p.1.i))),.hp (C3 (p.1.nk.zip ((EF (BY l) bs sets ways).D.take p.1.i))),.hp (Bx bi bs),c]) (fun p=>l.length-p.1.i) ⟨⟨0,none,0,none,0,[],[]⟩,⟨Nat.zero_le _,U,U,fun h=>absurd h (Nat.lt_irrefl 0),fun j _ h=>absurd h (Nat.not_lt_zero j)⟩⟩ ⟨U,U,U,U,U,U,U,trivial⟩ [5,3,2,1,0,2,2] U fun p=>Zsr<|Zv (ylt U U)<|Znq<|Zif U (fun h48=>?_) (fun h48=>?_)
  refine Zkn<|Zsq<|Zbl<|Zsr<|Zm U<|Zv (yea 6 hRc U U U (by first|assumption|omega) U Tryz.underlying22 U) ?_;rotate_left;refine Zex<|Zxt<|Zxt<|Zxx<|Zxs<|Zm U<|Zv (yb jH U)<|Ze (ebx U) fun b96=>Zw<|Zy U ?_;refine Zy U<|Znr ?_;rotate_left
  ·have hI:=p.2;have hlt:p.1.i<l.length:=by omega
   have hmem:=List.getElem_mem hlt;have hRw:=hC.w _ hmem;have hzw:=hC.z _ hmem;have hnw:=hC.n _ hmem;have huw:=hC.u _ hmem;have hi4:((p.1.i:Nat):Int)<4:=by omega
   have hi0:(0:Int)≤((p.1.i:Nat):Int):=by omega
   refine Zv (yec (m:=0) 6 hRc U (gE (by first|assumption|omega)) U U U)<|Zb 2 U<|Zns<|Zb 3 U<|Zk (c74 ..) [5] U U ?_;refine Zq ?_;refine Zk (iK ((p.1.i:Nat):Int) c l[p.1.i].1 l[p.1.i].2.1 l[p.1.i].2.2 (bs.length:Int) hi0 hi4 hRw hzw hnw huw) [6] U U<|⟨?_,?_⟩
   refine fun a=>fun b_1=>Zq<|Zv (ym rfl)<|Zv (yx rfl rfl)<|Zv (yx rfl rfl)<|Zv (ya rfl)<|Zv (ya rfl)<|Znl<|Znx ?_;refine Zsr<|Zb 3 U ?_;rotate_left;refine fun a=>Zq<|Zv (ym rfl)<|Zv (yx rfl rfl)<|Zv (yx rfl rfl)<|Zv (ya rfl)<|Zv (ya rfl)<|Znl<|Znx<|Zsr ?_;refine Zb 3 U ?_;rotate_left
   ·refine Zk (Z6 ((p.1.i:Nat):Int) sets ways hi0 hi4) [] U U<|⟨?_,?_⟩
    refine fun a_1=>fun b_2=>Zq<|Zv (ym rfl)<|Zv (yx rfl rfl)<|Zv (yx rfl rfl)<|Zv (ya rfl)<|Zv (ya rfl)<|Znl<|Znx ?_;refine Zsq<|Zsr<|Zb 6 U ?_;refine Zn<|Zcf U<|Zkn ?_;rotate_left;refine fun a_1=>Zq<|Zv (ym rfl)<|Zv (yx rfl rfl)<|Zv (yx rfl rfl)<|Zv (ya rfl)<|Zv (ya rfl)<|Znl<|Znx<|Zsq ?_;refine Zsr<|Zb 6 U<|Znl ?_;refine Znx<|Zct U<|Zsr<|Zb 2 U<|Znr<|Zr1<|Zr2 ?_;refine Zr1<|Zr1<|Zr2<|Zr1 ?_;rotate_left
    ·have hCi:=XU (bs:=bs) (sets:=sets) (ways:=ways) hlt;have hDi:=XV (bs:=bs) (sets:=sets) (ways:=ways) hlt;have hI1:=hI.nb;have hI2:=hI.nk;have hm1:p.1.nb.length+1≤maxLen:=Nat.le_trans (show _≤1048576 by omega) (by decide);have hm2:p.1.nk.length+1≤maxLen:=Nat.le_trans (show _≤1048576 by omega) (by decide)
     have hN:∀A' cap' B' capb',NwI l sets ways ⟨p.1.i+1,A',cap',B',capb',p.1.nb++[b_1],p.1.nk++[b_2]⟩:=fun _ _ _ _=>⟨hlt,by rw[List.length_append,hI1];rfl,by rw[List.length_append,hI2];rfl,fun _=>a_1,fun j hj hji=>by
      rcases Nat.lt_or_ge j p.1.i with h|h
      ·exact hI.k j hj h
      ·have:j=p.1.i:=by have:j<p.1.i+1:=hji;omega
       subst this
       exact a.1⟩
     refine dY 16 1 [5,5] U U U U<|Zht 0 U (ym U)<|Zht 2 U (ym U)<|Zht 3 U (yn U)<|Zht 4 U (yf 0 U)<|Zht 5 U (yd 4 U U U)<|Zht 6 U (ym U)<|Zht 9 U (ym U)<|Zht 10 U (yn U)<|Zht 11 U (yf 1 U) ?_;refine Zht 12 U (yd 4 U U U)<|Zht 13 U (ym U)<|ZH2 7 14 (Zoe U (ebp MK U) fun A80=>Zwh 3 U ?_) (Zoe U (ebp Kr U) fun A87=>Zwh 3 U ?_);rotate_left;refine ZH1 7<|Zoe U (ebp MK U) fun A80=>Zwh 4 U ?_;rotate_left
     ·refine ZH2 8 14 (Zoe U (Dp 1 0 MK U U U own.rd U U U (fun _ _=>U) (by simp;omega) hm1)<|fun A' cap'=>Zwh 3 U ?_) (Zoe U (ebp Kr U)<|fun A87=>Zwh 4 U ?_)
      ·refine ZH1 14<|Zoe U (ebp Kr U) fun A87=>Zwh 4 U ?_;refine ZH1 15<|Zoe U (Dp 3 0 Kr U U U own.rd U U U (fun _ _=>U) (by simp;omega) hm2)<|fun B' capb'=>Zwh 4 U<|ZHn<|Ztl U<|Ztv (yn U)<|Ztv (yf 0 U)<|Zte (es 8 U U U U U)<|Ztw<|Ztv (yn U)<|Ztv (yf 1 U)<|Zte (es 8 U U U U U)<|Ztw<|Ztn ?_;refine Zxn<|Znx<|Zrg<|Zv (Ac U U (Ar U (by omega)))<|Zm U<|Znl ?_;refine Zfx [4,9] (I9 (b:=b_2) hI.nk hDi) U ?_;refine Zfx [5,8] (Jc (b:=b_1) hI.nb hCi) U ?_
       refine Zlr ⟨⟨p.1.i+1,A',cap',B',capb',p.1.nb++[b_1],p.1.nk++[b_2]⟩,hN A' cap' B' capb'⟩ (by show l.length-(p.1.i+1)<l.length-p.1.i;omega) ⟨U,U,U,U,U,U,U,trivial⟩ [8,4,4,0,0,3,2] 2 U U
      ·refine ZH1 8<|Zoe U (Dp 2 1 MK U U U own.rd U U U (fun _ _=>U) (by simp;omega) hm1)<|fun A' cap'=>Zwh 4 U ?_;refine ZH1 15<|Zoe U (Dp 3 0 Kr U U U own.rd U U U (fun _ _=>U) (by simp;omega) hm2)<|fun B' capb'=>Zwh 4 U<|ZHn<|Ztl U<|Ztv (yn U)<|Ztv (yf 0 U)<|Zte (es 8 U U U U U)<|Ztw<|Ztv (yn U)<|Ztv (yf 1 U)<|Zte (es 8 U U U U U)<|Ztw<|Ztn ?_;refine Zxn<|Znx<|Zrg<|Zv (Ac U U (Ar U (by omega)))<|Zm U<|Znl ?_;refine Zfx [4,9] (I9 (b:=b_2) hI.nk hDi) U ?_;refine Zfx [5,8] (Jc (b:=b_1) hI.nb hCi) U ?_
       refine Zlr ⟨⟨p.1.i+1,A',cap',B',capb',p.1.nb++[b_1],p.1.nk++[b_2]⟩,hN A' cap' B' capb'⟩ (by show l.length-(p.1.i+1)<l.length-p.1.i;omega) ⟨U,U,U,U,U,U,U,trivial⟩ [8,4,4,0,0,3,2] 2 U U
     ·refine ZH1 8<|Zoe U (Dp 2 0 MK U U U own.rd U U U (fun _ _=>U) (by simp;omega) hm1)<|fun A' cap'=>Zwh 4 U ?_;refine ZH1 15<|Zoe U (Dp 3 1 Kr U U U own.rd U U U (fun _ _=>U) (by simp;omega) hm2)<|fun B' capb'=>Zwh 4 U<|ZHn<|Ztl U<|Ztv (yn U)<|Ztv (yf 0 U)<|Zte (es 8 U U U U U)<|Ztw<|Ztv (yn U)<|Ztv (yf 1 U)<|Zte (es 8 U U U U U)<|Ztw<|Ztn ?_;refine Zxn<|Znx<|Zrg<|Zv (Ac U U (Ar U (by omega)))<|Zm U<|Znl ?_;refine Zfx [4,9] (I9 (b:=b_2) hI.nk hDi) U ?_;refine Zfx [5,8] (Jc (b:=b_1) hI.nb hCi) U ?_
      refine Zlr ⟨⟨p.1.i+1,A',cap',B',capb',p.1.nb++[b_1],p.1.nk++[b_2]⟩,hN A' cap' B' capb'⟩ (by show l.length-(p.1.i+1)<l.length-p.1.i;omega) ⟨U,U,U,U,U,U,U,trivial⟩ [8,4,4,0,0,3,2] 2 U U
    ·refine Zre (.t U (.t U .n)) (hS.2 (QP a_1)) [2,1] 8 U U U U
   ·refine Zk (Z6 ((p.1.i:Nat):Int) sets ways hi0 hi4) [] U U<|⟨?_,?_⟩
    refine fun a_1=>fun b_1=>Zq<|Zv (ym rfl)<|Zv (yx rfl rfl)<|Zv (yx rfl rfl)<|Zv (ya rfl)<|Zv (ya rfl)<|Znl<|Znx ?_;refine Zsq<|Zsr<|Zb 6 U<|Zn ?_;refine Zct U<|Zsr<|Zb 2 U<|Znr<|Zr1<|Zr2<|Zr1 ?_;refine Zr1<|Zr2<|Zr1 ?_;rotate_left;refine fun a_1=>Zq<|Zv (ym rfl)<|Zv (yx rfl rfl)<|Zv (yx rfl rfl)<|Zv (ya rfl)<|Zv (ya rfl)<|Znl<|Znx<|Zsq ?_;refine Zsr<|Zb 6 U<|Zn<|Zct U ?_;refine Zsr<|Zb 2 U<|Znr<|Zr1<|Zr2<|Zr1<|Zr1 ?_;refine Zr2<|Zr1 ?_;rotate_left
    ·refine Zre (.t U (.t U .n)) (hS.2 (KI hlt fun h=>a ⟨h,by omega,by omega⟩)) [2,1] 8 U U U U
    ·refine Zre (.t U (.t U .n)) (hS.2 (KI hlt fun h=>a ⟨h,by omega,by omega⟩)) [1,0] 7 U U U U
  ·have hI:=p.2;have hI0:=hI.i;have hI1:=hI.nb;have hI2:=hI.nk;have hCl:(EF (BY l) bs sets ways).C.length=l.length:=by simp[EF]
   have hDl:(EF (BY l) bs sets ways).D.length=l.length:=by simp[EF,Pi]
   rw[show(EF (BY l) bs sets ways).C.take p.1.i=(EF (BY l) bs sets ways).C from List.take_of_length_le (by omega),show(EF (BY l) bs sets ways).D.take p.1.i=(EF (BY l) bs sets ways).D from List.take_of_length_le (by omega)];have okN:(EF (BY l) bs sets ways).Ok 0:=⟨by omega,by omega,by omega,by show(1:Int)≤1024;decide,by show(1024:Int)≤1024;decide,by show((0:Nat):Int)≤1024;decide⟩
   have hy:=QQ (l:=l) (by omega) (by omega) (hI.r (by omega)) (fun j h=>hI.k j h (by omega));refine Zfx [1,1,1,1,1,3,3] (AM (b:=b37) (bn:=b) (bh:=b') (m:=EF (BY l) bs sets ways) okN ⟨by omega,by omega⟩) U ?_;refine Zfx [1,0] (B9 (b:=b96) (m:=EF (BY l) bs sets ways)) U ?_;refine Zre (.t U (.t U .n)) (hS.1 hy _) [0,0,0] 0 U U U U
structure Wld where
 A:Option Addr
 cap:Nat
 l:List (Option Addr × Nat × List Int)
 B:Option Addr
 capb:Nat
 bs:List Int
 sets:Int
 ways:Int
def Wld.cells (x:Wld):List Value:=[.slice x.A x.l.length x.cap,.slice x.B x.bs.length x.capb,.int .i64 x.sets,.int .i64 x.ways]
structure Wld.In (c:Ck) (x:Wld):Prop where
 cds:Cds c x.A x.cap x.l
 b:Rd u8E c x.B x.capb x.bs
 r:∀a∈x.bs,0≤a∧a<256
def Wld.ok (x:Wld):Bool := !szF x.bs.length && D1 (BY x.l) x.sets x.ways
def Wld.m (x:Wld):MD:=EF (BY x.l) x.bs x.sets x.ways
section
variable {N:Nat × List Deferred} {T:Tb} {e:World} {L:List Ck} {x x0 x1 x2 x3:Operand} {ty:TypeId} {pos:String} {af:Array Edge} {g:Option (Nat × Bool)} {dd:Option Nat}
theorem aF:BX slE 22 24:=⟨Tryz.underlying22,by
 obtain⟨i0,hi,hz0,hz1,hz2⟩:=info_parts (show(Tryz.prog.info? 62).map (fun i=>(i.zero,i.size,i.bytes))=some (some (.slice none 0 0),1,24) by kernel_rfl)
 exact⟨i0,_,hi,hz0,hz1,hz2,rfl⟩⟩
theorem iP {k:Option Addr × Nat × List Int} (h:evT T x=some (.slice k.1 k.2.2.length k.2.1)):Ef Tryz.prog N T e L ⟨dd,.buildSlice 22 1 #[(0,x)],ty,pos,af,g⟩ fun K=>∀A,K (some (.slice A 1 1)) (.hp (own slE A 1 [k])::L):=fun a w fr hp G kk => .inl (by
 obtain⟨i,z,hi,hz,hsz,hby,hzc⟩:=aF.info;have hs1:i.size=1:=hsz;refine⟨.slice (some ⟨w.heap.size,0,none⟩) 1 1,w.alloc (.cells #[.slice k.1 k.2.2.length k.2.1] 62),?_,kk _ _ (hp.ownNew ((AJ.refl _ w).alloc _) ⟨by simp,by decide,.inr ⟨_,0,_,rfl,Go.heap_alloc_new w _,by simp[slE],by simp[slE]⟩⟩ DR)⟩
 have hfill:Instr.fill (fun q=>some (q*i.size,i.size)) ((Array.range (1*i.size)).map (z.cells[· % z.cells.size]!)) [(0,.slice k.1 k.2.2.length k.2.1)]=some #[.slice k.1 k.2.2.length k.2.1]:=by
  rw[hs1];generalize hzz:(Array.range (1*1)).map (z.cells[· % z.cells.size]!)=zz;have hz1:zz.size=1:=by rw[←hzz];simp
  rcases zz with⟨_|⟨v0,_|⟨v1,l⟩⟩⟩
  ·exact absurd hz1 (by simp)
  ·rfl
  ·exact absurd hz1 (by simp)
 have:=run_buildSlice (P:=Tryz.prog) w 22 62 1 #[(0,.slice k.1 k.2.2.length k.2.1)] #[.slice k.1 k.2.2.length k.2.1] i z aF.ty hi hz (by rw[hs1];omega) (by rw[hs1];omega) hfill
 simp[execOp,fr.evT h,this])
end
abbrev Z9:List Int:=[5243027,1056803,8451,115]
theorem OO {α:Type} [DecidableEq α] {E:Enc Tryz.prog α} {A:Option Addr} {cap:Nat} {l:List α} {L:List Ck} {i:Nat} (h:nth L i=some (.hp (own E A cap l))):Rd E (.hp (Sep L)) A cap l:=fun g hc w hl=>by obtain⟨h1,e1,ho⟩:=Sep.nth h hc;exact(own.at_ ho (e1.tr hl)).view
def m1:MD:=EF [Z9] (List.replicate 16 0) 1 1
def l7:List Cho:=[⟨1,0,0⟩,⟨1,0,0⟩,⟨1,0,0⟩,⟨2,0,0⟩,⟨3,0,0⟩,⟨3,0,0⟩,⟨2,0,0⟩]
def r1:MD × List Did:=AP m1 l7
structure Arg (p q:HP):Prop where
 op:∀h,p h→Sep [spC,.hp q] h
 fo:∀h,Sep [spC,.hp q] h→p h
theorem Arg.un {p q:HP} (a:Arg p q) {X:List Ck} {h:Hl} (hs:Sep (.hp p::X) h):Sep (spC :: .hp q::X) h:=(hs.hd (q := .hp (Sep [spC,.hp q])) a.op).flat
theorem Arg.re {p q:HP} (a:Arg p q) {X:List Ck} {h:Hl} (hs:Sep (spC :: .hp q::X) h):Sep (.hp p::X) h:=(Sep.unflat (L:=[spC,.hp q]) hs).hd (q := .hp p) a.fo
theorem OJ {a:Assume} {C:Checked} {os:Os} {f:FuncId} {fn:Func} {s:ChangeSpec} {conds:List PathCond} {apart fresh handsOn again:Bool} {X:World→Array Value→Prop} {H:Type} {enc:TypeId × Value→H}
  (hX:∀(w w':World) (args:Array Value),w.heap=w'.heap→X w args→X w' args)
  (own:ownKnob C.prog.godebug=none) (started:os.Started) (noInit:C.prog.inits.idxOf? f=none) (hfn:C.prog.funcs[f]? = some fn)
  (witness:∃(w:World) (tape:Tape) (i:Input),w.os=os∧(w.forCall tape i).Shaped C.prog∧i.vars=[]∧Input.okWide C.prog (w.forCall tape i) .any w.heap.size f i ∧
   ((s.pre enc C.prog fn conds apart (w.forCall tape i).memory i.args∧X (w.forCall tape i).memory i.args)∧sizedMet enc C.prog fn (OpenSpec.ofChange s) apart (w.forCall tape i).memory i.args)∧a.holds C.prog (lone (Frame.enter C.prog f i.args .normal) [] (w.forCall tape i)))
  (contract:∀(W:World) (base:Nat) (args:Array Value) (ds gs:List (DataW H)) (before:List MemPlace),W.ShapedOpen C.prog →
   (∀(j:Nat) t v,fn.params[j]? = some t→args[j]? = some v→Value.okWide C.prog W .any base t v) →
   DataW.Whole enc C.prog fn.params.toList s.vars apart W args.toList ds gs before →
   conds.all (PathCond.test C.prog ⟨fn.params.toList,ds,s.plain.varTypes C.prog,gs⟩)=true→X W args →
   Calls C.prog f args W fun e W'=>∃v,e = .returned v∧s.post enc C.prog fn apart fresh handsOn again W args v W') :
  ReturnsInHanded a C os f .any (fun w args=>(s.pre enc C.prog fn conds apart w args∧X w args)∧sizedMet enc C.prog fn (OpenSpec.ofChange s) apart w args) (s.post enc C.prog fn apart fresh handsOn again):=by
 refine returnsInHanded_of_calls own started noInit witness ?_;intro w tape i _ hsh _ hok hpre _;obtain⟨_,_,_,fn',hfn',_,_,_,_,hval⟩:=hok;have e:fn'=fn:=Option.some.inj (hfn'.symm.trans hfn);subst e;obtain⟨⟨⟨ds,gs,before,hw,hc⟩,hx⟩,_⟩:=hpre;have hw':=DataW.Whole.of_heap (w':=w.forCall tape i) (by rfl) hw;refine(contract (w.forCall tape i) w.heap.size i.args ds gs before hsh hval hw' hc (hX _ _ _ (by rfl) hx)).mono fun e W' ⟨v,he,hp⟩=>?_;subst he;exact ChangeSpec.post_blind hp
theorem TW {W : World} (hs : W.ShapedOpen Tryz.prog) (hv : W.var? Tryz.prog "strings.asciiSpace" = some spL.toArray) : W.heap[0]? = some (.cells spL.toArray 405 (0, 0)) := by
 have h0:(((begin Tryz.prog (fun _ _=>0) default).world.heap[0]?).bind Obj.row?).map (·.2)=some 405:=by kernel_rfl
 obtain⟨⟨zero,t⟩,h1,h2⟩:=Option.map_eq_some_iff.1 h0;have h2:t=405:=h2;subst h2;obtain⟨cs,h3,_⟩:=hs.1 0 zero 405 (Nat.le_of_ble_eq_true (by kernel_rfl)) h1;unfold World.var? at hv
 rw [show Tryz.prog.globalNamed "strings.asciiSpace" = some 0 by kernel_rfl] at hv
 simp only[Option.bind_some,h3,Option.some.injEq] at hv;rw[h3,hv]
def spZ:List Int:=(List.range 256).map fun k=>if k=9∨k=10∨k=11∨k=12∨k=13∨k=32 then 1 else 0
theorem VU:(Rows.laid_strings_asciiSpace:DataW Unit)=Lib.tabData .u8 spZ:=by kernel_rfl
theorem cF:spZ.map (fun z=>Value.int .u8 z)=spL:=by unfold spZ spL;rw[List.map_map];rfl
theorem VV {W : World} (h : laidMetH Tryz.prog Rows.topAgainRow.laid W) : W.var? Tryz.prog "strings.asciiSpace" = some spL.toArray := by
 rw[MakeChecks.laidMetH_plain _ _ _ (by kernel_rfl)] at h
 have h2 : laidMet Tryz.prog [("strings.asciiSpace", Lib.tabData .u8 spZ)] W := by rw [← VU];exact h.tail.tail.tail.tail
 have h3:=Lib.tabIs_of_head (P:=Tryz.prog) (W:=W) (g:=0) (t:=405) (e:=5) (n:=256) (by kernel_rfl) (by kernel_rfl) Tryz.underlying405 Tryz.underlying5 (by kernel_rfl) (by kernel_rfl) h2;unfold Lib.TabIs at h3;rw[h3,cF]
def hpP (W:World):HP:=fun h=>Le (Em W) h
def hpQ (W:World):HP:=fun h=>∀k o,k≠0→W.heap[k]? = some o→h k=some o
theorem YV {W:World} (h0:W.heap[0]? = some (.cells spL.toArray 405 (0,0))):Arg (hpP W) (hpQ W) where
 op h hp:=by
  refine⟨fun k=>if k=0 then h 0 else none,fun k=>if k=0 then none else h k,fun k o e=>?_,fun k o e=>?_,fun k=>?_,?_,fun k=>if k=0 then none else h k,fun _=>none,Le.refl _,(fun _ _ e=>by cases e),fun _ => .inr rfl,fun k o hk hW=>?_,trivial⟩
  ·by_cases hk:k=0
   ·subst hk;simpa using e
   ·simp[hk] at e
  ·by_cases hk:k=0
   ·simp[hk] at e
   ·simpa[hk] using e
  ·by_cases hk:k=0
   ·exact .inr (by simp[hk])
   ·exact .inl (by simp[hk])
  ·show(if 0=0 then h 0 else none)=_;rw[if_pos rfl];exact hp 0 _ h0
  ·show(if k=0 then none else h k)=_;rw[if_neg hk];exact hp k o hW
 fo h hs:=by
  obtain⟨h1,h2,l1,l2,_,hb,h3,h4,l3,_,_,hq,_⟩:=hs;intro k o hk;by_cases h:k=0
  ·subst h;have e:o = .cells spL.toArray 405 (0,0):=Option.some.inj ((show W.heap[0]? = some o from hk).symm.trans h0);subst e;exact l1 _ _ hb
  ·exact l2 _ _ (l3 _ _ (hq k o h hk))
theorem Lx {W w:World} {k:Nat} {o:Obj} (hl:Le (Em W) (Em w)) (h:W.heap[k]? = some o):w.heap[k]? = some o:=hl k o h
theorem U3 {W w:World} {x:Addr} {v:Value} (hl:Le (Em W) (Em w)) (h:W.cell? x=some v):w.cell? x=some v:=by
 unfold World.cell? at h⊢;cases hk:W.heap[x.block]? with
 | none=>simp[hk] at h
 | some o=>
  rw[hk] at h;rw[Lx hl hk];exact h
theorem P8 {W w:World} (hl:Le (Em W) (Em w)):W.heap.size≤w.heap.size:=by
 rcases Nat.eq_zero_or_pos W.heap.size with h|h
 ·omega
 ·have:=Lx (k:=W.heap.size-1) hl (Array.getElem?_eq_getElem (by omega));have:=(Array.getElem?_eq_some_iff.1 this).1;omega
theorem Mb {α:Type} [DecidableEq α] {E:Enc Tryz.prog α} {W:World} {A:Option Addr} {cap:Nat} {l:List α} (h:CB E W A cap l):Rd E (.hp (hpP W)) A cap l:=fun h1 hd w hl=>by have hle:Le (Em W) (Em w):=Le.tr hd hl;obtain⟨h2,h3,h4⟩:=h;refine⟨h2,h3,h4.imp id fun⟨g,o,hA,hg,hr⟩=>⟨g,o,hA,Nat.lt_of_lt_of_le hg (P8 hle),fun j v hj=>U3 hle (hr j v hj)⟩⟩
theorem UF {W w:World} (h:Hp W [.hp (hpP W)] w):Go.RowKit.Below W.heap.size W w:=by obtain⟨g,hg,hp⟩:=h.get (i:=0) rfl;have hle:Le (Em W) (Em w):=Le.tr hp hg;exact⟨h.os,h.tape,h.output,P8 hle,fun k hk=>by rw[Lx hle (Array.getElem?_eq_getElem hk),Array.getElem?_eq_getElem hk]⟩
theorem jC (W:World):Hp W [.hp (hpP W)] W:=⟨rfl,rfl,rfl,BN (Le.refl _)⟩
end Go.Proofs.YtpfijldkkfiooaaGreatDoor
namespace Go.Proofs.YtpfijldkkfiooaaGreatDoor
open Go.RowKit Go.ChangeShapes Go.WideShapes Go.ChangeAt Go.Deep
section
variable {H:Type} {enc:TypeId × Value→H} {P:Program} {w:World} {base:Nat} {spare:Nat→Bool} {held:Bool} {fuel:Nat} {cs:List Value} {x:DataW H × List MemPlace}
theorem SM {r:Reach} {a:Addr} {e n:Nat} (h:w.has P r base a e n):∃g o,a=⟨g,o,none⟩∧g<w.heap.size:=by
 obtain⟨_,h1,row,cells,h2,_⟩:=h;obtain⟨g,o,s⟩:=a;subst h1;refine⟨g,o,rfl,?_⟩;unfold World.shape? at h2;rcases Nat.lt_or_ge g w.heap.size with h|h
 ·exact h
 ·have:w.heap[g]? = none:=Array.getElem?_eq_none h;simp[this] at h2
theorem IS (g o i:Nat):(⟨g,o,none⟩:Addr).add i=⟨g,o+i,none⟩:=by unfold Addr.add;by_cases h:i=0<;>simp[h]
theorem HL {α:Type} [DecidableEq α] {E:Enc P α} {OK:α→Prop} {t:TypeId} {r:Reach} {b0:Nat} {v:Value} {d:DataW H} {p:List MemPlace} (ht:P.underlying t=some (.slice E.T)) (hC:P.cellsOf E.T=E.n)
  (hel:∀fuel cs x,DataW.trod enc P w base (fun _=>true) held fuel E.T cs=some x→∃m,OK m∧cs=E.cells m) (hv:Value.okWide P w r b0 t v) (h:DataW.Trod enc P w base (fun _=>true) held t v d p) :
  ∃A cap l,v = .slice A l.length cap∧CB E w A cap l∧∀m∈l,OK m:=by
 obtain⟨a0,len,cap,rfl⟩:=okWide_slice ht hv;obtain⟨fuel,hf⟩:=h;rcases open_slice ht hf with⟨hcs,_⟩|⟨a,l,c,m,n,D,Pl,hcs,_,hl,hm,hz,_,hcell⟩
 ·simp[Value.cells] at hcs;obtain⟨rfl,rfl,rfl⟩:=hcs;exact⟨none,0,[],rfl,CB.nil,by simp⟩
 ·simp[Value.cells] at hcs;obtain⟨rfl,rfl,rfl⟩:=hcs;rw[if_pos rfl] at hz;subst hz;have hh:w.has P r b0 a E.T m:=by unfold Value.okWide at hv;rw[ht] at hv;simp only[Cell.okWide,ht,Cell.ok] at hv;exact hv.2.2
  obtain⟨g,o,rfl,hg⟩:=SM hh;rw[hC] at hcell;have hb:∀i:_root_.Fin len,∃q:α,OK q∧w.rangeAt g (o+i.1*E.n) (E.cells q):=by intro i;obtain⟨cs',h1,h2⟩:=hcell i.1 (by omega);obtain⟨q,hq,rfl⟩:=hel _ _ _ h2;obtain⟨_,hcl,hat⟩:=World.cells?_some h1;refine⟨q,hq,fun j v hj=>?_⟩;have hjl:=(List.getElem?_eq_some_iff.1 hj).1;have:=hat j (by omega);rw[IS,IS] at this;rw[this,hj]
  obtain⟨f,hf⟩:∃f:_root_.Fin len→α,∀i,OK (f i)∧w.rangeAt g (o+i.1*E.n) (E.cells (f i)):=⟨fun i=>(hb i).choose,fun i=>(hb i).choose_spec⟩
  refine⟨some ⟨g,o,none⟩,m,List.ofFn f,by simp,⟨by simp;omega,hm,.inr ⟨g,o,rfl,hg,fun j v hj=>?_⟩⟩,?_⟩
  ·have hjl:=(List.getElem?_eq_some_iff.1 hj).1;rw[BQ,List.length_ofFn] at hjl;have hn:=E.pos;have hq:j/E.n<len:=(Nat.div_lt_iff_lt_mul hn).2 hjl;have hr:j%E.n<E.n:=Nat.mod_lt _ hn;have hj2:j/E.n*E.n+j%E.n=j:=by rw[Nat.mul_comm];exact Nat.div_add_mod j E.n
   have e1:=Kv (E:=E) (List.ofFn f) (j/E.n) (by simpa using hq);have e2:(E.cells (f ⟨j/E.n,hq⟩))[j%E.n]? = some v:=by rw[List.getElem_ofFn] at e1;rw[←e1,List.getElem?_take,if_pos hr,List.getElem?_drop,hj2];exact hj
   have:=(hf ⟨j/E.n,hq⟩).2 (j%E.n) v e2;rw[←this];show _=w.cell? ⟨g,o+j/E.n*E.n+j%E.n,none⟩;rw[Nat.add_assoc,hj2]
  ·intro q hq;obtain⟨i,rfl⟩:=List.mem_ofFn.1 hq;exact(hf i).1
end
end Go.Proofs.YtpfijldkkfiooaaGreatDoor
namespace Go.Proofs.YtpfijldkkfiooaaGreatDoor
open Go Go.RowKit Go.ChangeShapes Go.WideShapes Go.ChangeAt Go.Deep
set_option maxRecDepth 20000
structure Rn (w:World) (m:Option Addr × Nat × List Int):Prop where
 v:m.2.1≠0→CB D5 w m.1 m.2.1 m.2.2
 z:m.2.1=0→m.2.2=[]
 n:m.1=none→m.2.2=[]∧m.2.1=0
 u:∀a∈m.2.2,U32 a
theorem Ux {w:World} {a:Addr} {v:Value} (h:w.cell? a=some v):∃g o,a=⟨g,o,none⟩∧g<w.heap.size:=by
 obtain⟨g,o,s⟩:=a;unfold World.cell? at h;cases hk:w.heap[g]? with
 | none=>simp[hk] at h
 | some ob=>
  refine⟨g,o,?_,(Array.getElem?_eq_some_iff.1 hk).1⟩;cases s with
  | none=>rfl
  | some s=>cases ob<;>simp[hk] at h
theorem QF (l:List Int):l.flatMap D5.cells=l.map (Value.int .u32):=by
 induction l with
 | nil=>rfl
 | cons a r ih=>exact congrArg (List.cons _) ih
theorem YF {z:Int} (h:(Lit.int .u32 z).wf=true):U32 z:=by simp[Lit.wf] at h;unfold U32;simp[IntKind.min,IntKind.max,IntKind.bits,IntKind.signed] at h;omega
theorem VC {H:Type} {enc:TypeId × Value→H} {w:World} {base:Nat} {held:Bool} {fuel:Nat} {cs:List Value} {x:DataW H × List MemPlace} (h:DataW.trod enc Tryz.prog w base (fun _=>true) held fuel 62 cs=some x):∃m,Rn w m∧cs=slE.cells m:=by
 rcases open_slice Tryz.underlying62 h with⟨hcs,_⟩|⟨a,len,cap,m,n,D,Pl,hcs,_,hl,hm,hz,_,hcell⟩
 ·exact⟨(none,0,[]),⟨fun h=>absurd rfl h,fun _=>rfl,fun _=>⟨rfl,rfl⟩,fun a ha=>by cases ha⟩,hcs⟩
 ·rw[if_pos rfl] at hz;subst hz;by_cases hc:m=0
  ·subst hc;obtain rfl:len=0:=by omega
   exact⟨(some a,0,[]),⟨fun h=>absurd rfl h,fun _=>rfl,fun h=>(by cases h),fun a ha=>(by cases ha)⟩,hcs⟩
  ·have hC:Tryz.prog.cellsOf 40=1:=by kernel_rfl
   rw[hC] at hcell;have hb:∀i:_root_.Fin m,∃z:Int,w.cell? (a.add i.1)=some (.int .u32 z)∧(Lit.int .u32 z).wf=true:=fun i=>by obtain⟨cs',h1,h2⟩:=hcell i.1 i.2;obtain⟨_,hcl,hat⟩:=World.cells?_some h1;obtain⟨z,e0,_,wz⟩:=DataW.trod_int Tryz.underlying40 h2;subst e0;have:=hat 0 (by omega);rw[Nat.mul_one] at this;exact⟨z,by simpa[Addr.add] using this,wz⟩
   obtain⟨f,hf⟩:∃f:_root_.Fin m→Int,∀i,w.cell? (a.add i.1)=some (.int .u32 (f i))∧(Lit.int .u32 (f i)).wf=true:=⟨fun i=>(hb i).choose,fun i=>(hb i).choose_spec⟩
   obtain⟨g,o,ha,hg⟩:=Ux (hf ⟨0,by omega⟩).1;subst ha;refine⟨(some ⟨g,o,none⟩,m,(List.range len).map fun i=>if hi:i<m then f ⟨i,hi⟩ else 0),⟨fun _=>⟨by simpa using hl,hm,.inr ⟨g,o,rfl,hg,fun j v hj=>?_⟩⟩,fun h=>absurd h hc,fun h=>(by cases h),fun z hz=>?_⟩,by rw[hcs];simp[slE]⟩
   ·rw[QF] at hj;have hjl:j<len:=by have:=(List.getElem?_eq_some_iff.1 hj).1;simpa using this
    have hjm:j<m:=by omega
    have:=(hf ⟨j,hjm⟩).1;rw[IS] at this;rw[this];simpa[hjl,hjm] using hj
   ·obtain⟨i,_,rfl⟩:=List.mem_map.1 hz;by_cases hi:i<m
    ·have:=(hf ⟨i,hi⟩).2;simp only[hi,dif_pos];exact YF this
    ·simp only[hi,dif_neg,not_false_eq_true];exact u0
theorem Ou {H:Type} {enc:TypeId × Value→H} {w:World} {base b0:Nat} {held:Bool} {r:Reach} {v:Value} {d:DataW H} {p:List MemPlace} (hv:Value.okWide Tryz.prog w r b0 22 v) (h:DataW.Trod enc Tryz.prog w base (fun _=>true) held 22 v d p):∃A cap l,v = .slice A l.length cap∧CB slE w A cap l∧∀m∈l,Rn w m:=
 HL (E:=slE) Tryz.underlying22 (by kernel_rfl) (fun _ _ _ h=>VC h) hv h
theorem Z8 {W:World} {A:Option Addr} {cap:Nat} {l:List (Option Addr × Nat × List Int)} (h:CB slE W A cap l) (hi:∀m∈l,Rn W m):Cds (.hp (hpP W)) A cap l:=
 ⟨Mb h,fun m hm h0=>Mb ((hi m hm).v h0),fun m hm=>(hi m hm).z,fun m hm=>(hi m hm).n,fun m hm=>(hi m hm).u⟩
theorem WI {a:Int} (h:(Lit.int .u8 a).wf=true):0≤a∧a<256:=by simp[Lit.wf,IntKind.min,IntKind.max,IntKind.signed,IntKind.bits] at h;omega
theorem YH {W:World} {x:Wld} (hA:CB slE W x.A x.cap x.l) (hi:∀m∈x.l,Rn W m) (hB:CB u8E W x.B x.capb x.bs) (hb:∀a∈x.bs,0≤a∧a<256):x.In (.hp (hpP W)):=⟨Z8 hA hi,Mb hB,hb⟩
end Go.Proofs.YtpfijldkkfiooaaGreatDoor
namespace Go.Proofs.YtpfijldkkfiooaaGreatDoor.Ch
open Go Go.RowKit
def stateOf (L:List Ln) (num:Int):Int:=((AI L num).getD ln0).state
def setLn (bs:List Int) (n:Int) (b:B16):List Int:=if bs.length/16≤n.toNat then bs else Go.Proofs.YtpfijldkkfiooaaGreatDoor.setLn bs n b
theorem Ha (bs:List Int) (n:Int) (b:B16):(setLn bs n b).length=bs.length:=by
 unfold setLn;split
 ·rfl
 ·unfold Go.Proofs.YtpfijldkkfiooaaGreatDoor.setLn setF;have:=b.2.1;rw[List.length_append,List.length_append,List.length_take,List.length_drop];omega
theorem M8 (bs:List Int) (k:Nat):Di bs k=(bs.drop (16*k)).take 16:=by unfold Di;rw[List.drop_take,Nat.mul_comm k 16];congr 1;omega
theorem KC (bs:List Int) (n k:Nat) (b:List Int) (hb:b.length=16) (hn:n<bs.length/16) (hk:k<bs.length/16):Di (setF bs n b) k=if k=n then b else Di bs k:=by
 have hl:(setF bs n b).length=bs.length:=by unfold setF;rw[List.length_append,List.length_append,List.length_take,List.length_drop];omega
 rw[M8,M8];apply List.ext_getElem?;intro i;by_cases hi:i<16
 ·rw[List.getElem?_take_of_lt hi,List.getElem?_drop];unfold setF;rw[List.append_assoc];split
  ·rename_i e;subst e;rw[List.getElem?_append_right (by rw[List.length_take];omega),List.getElem?_append_left (by rw[List.length_take];omega),List.length_take];congr 1;omega
  ·rename_i e;rw[List.getElem?_take_of_lt hi,List.getElem?_drop];by_cases h1:k<n
   ·rw[List.getElem?_append_left (by rw[List.length_take];omega),List.getElem?_take_of_lt (by omega)]
   ·rw[List.getElem?_append_right (by rw[List.length_take];omega),List.getElem?_append_right (by rw[List.length_take];omega),List.getElem?_drop,List.length_take];congr 1;omega
 ·rw[List.getElem?_eq_none (by rw[List.length_take];omega)];split
  ·rw[List.getElem?_eq_none (by omega)]
  ·rw[List.getElem?_eq_none (by rw[List.length_take];omega)]
theorem KB (bs:List Int) (n k:Int) (b:B16) (_h0:0≤n) (_h1:0≤k) (hk:k.toNat<bs.length/16) (h:k≠n):Ah (setLn bs n b) k=Ah bs k:=by
 unfold setLn;split
 ·rfl
 ·have e:Di (setF bs n.toNat b.1) k.toNat=Di bs k.toNat:=by rw[KC _ _ _ _ b.2.1 (by omega) hk,if_neg (by omega)]
  unfold Ah Go.Proofs.YtpfijldkkfiooaaGreatDoor.setLn;simp only[e]
theorem Jz (bs:List Int) (n:Int) (b:B16) (_h0:0≤n) (hk:n.toNat<bs.length/16):Ah (setLn bs n b) n=b:=by
 unfold setLn;rw[if_neg (by omega)];have e:Di (setF bs n.toNat b.1) n.toNat=b.1:=by rw[KC _ _ _ _ b.2.1 hk hk,if_pos rfl]
 unfold Ah Go.Proofs.YtpfijldkkfiooaaGreatDoor.setLn;simp only[e];rw[dif_pos b.2]
end Go.Proofs.YtpfijldkkfiooaaGreatDoor.Ch
namespace Go.Proofs.YtpfijldkkfiooaaGreatDoor.Ch
open Go Go.RowKit
set_option linter.unusedVariables false
def D8 (id:Int) (line:Int) (wr:Bool) (h:0≤line∧line<4294967296):Msg:=mkM (if wr then 2 else 1) id 4 line AE h
def It (id:Int) (x:Ln):Msg:=mkM 3 id 4 x.num x.bs x.hn
def outF (d:CD) (x:Ln):CD × List Msg × Bool:=
 if x.state=1 then({ d with L:=dropL d.L x.num },[],true)
 else match d.giv with
  | some _=>(d,[],false)
  | none=>({ d with L:=dropL d.L x.num,giv:=some x },[It d.id x],true)
def mine (giv:Option Ln) (line:Int):Bool:=match giv with|some x=>decide (x.num=line)|none=>false
def askF (d:CD) (line:Int) (h:0≤line∧line<4294967296) (wr:Bool) (pick:Int):CD × List Msg × Int:=
 if d.ask.isSome=true∨mine d.giv line=true then(d,[],230)
 else if stateOf d.L line≠0∧(wr=false∨Ap (stateOf d.L line)=true) then(d,[],231)
 else match HT d.n d.ways d.L line pick with
  | none=>({ d with ask:=some (line,wr) },[D8 d.id line wr h],0)
  | some x=>if(outF d x).2.2=true then({ (outF d x).1 with ask:=some (line,wr) },(outF d x).2.1++[D8 d.id line wr h],0) else(d,[],230)
def dataOk (d:CD) (m:Msg):Bool:=match d.ask with|some (l,wr)=>decide (l=m.line) && (wr == decide (m.kind=10))|none=>false
def BH (m:Msg):Ln:=mkL m.line (if m.kind=8 then 1 else 2) m.bs m.hn
def takeF (d:CD) (m:Msg):CD × List Msg × Int:=
 if chk m≠0∨m.dst≠d.id then(d,[],2)
 else if m.kind=8∨m.kind=9∨m.kind=10 then
  (if dataOk d m=true∧Cu d.n d.ways d.L (BH m)=0 then({ d with L:=putL d.n d.ways d.L (BH m),ask:=none },[mkM 13 d.id 4 m.line AE m.hn],0) else(d,[],220))
 else if m.kind=4∨m.kind=5 then
  (match d.giv with
   | some x=>if x.num=m.line then(d,[mkM 11 d.id 4 m.line x.bs m.hn],0) else backF d m
   | none=>backF d m)
 else if m.kind=6 then(if Ap (stateOf d.L m.line)=true then(d,[],220) else({ d with L:=dropL d.L m.line },[mkM 12 d.id 4 m.line AE m.hn],0))
 else if mine d.giv m.line=true then({ d with giv:=none },[],0) else(d,[],220)
where
 backF (d:CD) (m:Msg):CD × List Msg × Int:=
  if Ap (stateOf d.L m.line)=true then
   ({ d with L:=if m.kind=4 then putL d.n d.ways d.L { (AI d.L m.line).getD ln0 with state:=1 } else dropL d.L ((AI d.L m.line).getD ln0).num },[mkM 11 d.id 4 m.line ((AI d.L m.line).getD ln0).bs m.hn],0)
  else(d,[],220)
def evictF (d:CD) (pick:Int):CD × List Msg:=if d.L=[] then(d,[]) else((outF d ((allL d.n d.L).getD (Am pick d.L.length) ln0)).1,(outF d ((allL d.n d.L).getD (Am pick d.L.length) ln0)).2.1)
theorem IC {L:List Ln} {num:Int} {x:Ln} (h:AI L num=some x):x.num=num:=by have:=List.find?_some h;simpa[AW] using this
theorem Qj {L:List Ln} {num:Int} (h:Ap ((AI L num).getD ln0).state=true):∃y,AI L num=some y∧(AI L num).getD ln0=y:=by
 cases hg:AI L num with
 | none=>rw[hg] at h;exact absurd h (by decide)
 | some y=>exact⟨y,rfl,rfl⟩
theorem put_there {n:Nat} {ways:Int} {L:List Ln} {num:Int} (h:Ap ((AI L num).getD ln0).state=true) (x:Ln) (h1:x.num=((AI L num).getD ln0).num) (h2:x.state=3):Cu n ways L x=0:=by
 obtain⟨y,hy,hd⟩:=Qj h;have hn:x.num=num:=by rw[h1,hd];exact IC hy
 have ho:¬okS x=false:=by simp[okS,h2]
 unfold Cu;rw[if_neg ho,if_neg (fun hh=>by rw[hn,hy] at hh;cases hh.1)]
def HasRoom (n:Nat) (ways:Int) (L:List Ln) (num:Int):Prop:=AI L num=none→((ofs n L (si n num)).length:Int)<ways
def DW (d:CD):Prop:=∀l wr,d.ask=some (l,wr)→HasRoom d.n d.ways d.L l
section
variable {n:Nat} {ways:Int} {L:List Ln} {num k:Int} {x:Ln}
theorem JC (h:AI L num=some x):x∈L:=List.mem_of_find?_eq_some h
theorem Pu {l:List Ln} (h:∃y∈l,y.num=num):(dropL l num).length<l.length:=by
 unfold dropL;induction l with
 | nil=>obtain⟨y,hy,_⟩:=h;cases hy
 | cons z r ih=>
  by_cases hz:z.num=num
  ·rw[List.filter_cons_of_neg (by simp[AW,hz])];have:=List.length_filter_le (fun x => !AW num x) r;simp only[List.length_cons];omega
  ·rw[List.filter_cons_of_pos (by simp[AW,hz])];obtain⟨y,hy,he⟩:=h;rcases List.mem_cons.1 hy with rfl|hy
   ·exact absurd he hz
   ·have:=ih ⟨y,hy,he⟩;simp only[List.length_cons];omega
theorem Jq:AI (dropL L k) num=if num=k then none else AI L num:=by
 unfold AI dropL;induction L with
 | nil=>simp
 | cons z r ih=>
  by_cases hz:z.num=k
  ·rw[List.filter_cons_of_neg (by simp[AW,hz]),ih];by_cases hn:num=k
   ·simp[hn]
   ·have:AW num z=false:=by simp[AW,hz];exact fun e=>hn e.symm
    simp[hn,List.find?,this]
  ·rw[List.filter_cons_of_pos (by simp[AW,hz])];by_cases hn:num=k
   ·have:AW num z=false:=by simp[AW,hn,hz]
    simp only[List.find?,this,ih]
    try simp[hn]
   ·simp only[List.find?,ih,if_neg hn]
theorem MZ (h:AI L x.num≠none):AI (repl x L) num=if num=x.num then some x else AI L num:=by
 unfold AI at *;induction L with
 | nil=>simp at h
 | cons z r ih=>
  by_cases hz:z.num=x.num
  ·simp only[repl,if_pos hz];by_cases hn:num=x.num
   ·simp[hn,List.find?,AW]
   ·have h1:AW num x=false:=by simp[AW];exact fun e=>hn e.symm
    have h2:AW num z=false:=by simp[AW,hz];exact fun e=>hn e.symm
    simp[hn,List.find?,h1,h2]
  ·simp only[repl,if_neg hz];have h3:AW x.num z=false:=by simp[AW,hz]
   rw[List.find?,h3] at h;by_cases hn:num=x.num
   ·have:AW num z=false:=by simp[AW,hn,hz]
    simp only[List.find?,this,ih h]
   ·simp only[List.find?,ih h,if_neg hn]
theorem Vv (h:x∈L):x∈ofs n L (si n x.num):=List.mem_filter.2 ⟨h,by simp[BT]⟩
theorem HasRoom.drop (hn:0<n) (hf:FW n ways L) (h:HasRoom n ways L num) (k:Int):HasRoom n ways (dropL L k) num:=by
 intro h1;rw[Ft];have h2:=Ji (ofs n L (si n num)) k;have h3:=hf _ (Hb (num:=num) hn);cases hg:AI L num with
 | none=>have:=h hg;omega
 | some y=>
  rw[Jq,hg] at h1;split at h1
  ·rename_i e;subst e;have hy:=IC hg;have:=Pu (num:=num) (l:=ofs n L (si n num)) ⟨y,by have:=Vv (n:=n) (JC hg);rwa[hy] at this,hy⟩;omega
  ·cases h1
theorem putL_there (h:AI L x.num≠none) (he:Cu n ways L x=0):putL n ways L x=repl x L:=by unfold putL;rw[if_pos he,if_neg h]
theorem HasRoom.repl (h:HasRoom n ways L num) (hx:AI L x.num≠none):HasRoom n ways (repl x L) num:=by
 intro h1;rw[MZ hx] at h1;split at h1
 ·cases h1
 ·by_cases e:si n num=si n x.num
  ·rw[e,Dy,Fx,←e];exact h h1
  ·rw[D2 _ _ e];exact h h1
theorem TE (h:HT n ways L num k=none):HasRoom n ways L num:=by
 intro h1;unfold HT at h;split at h
 ·cases h
 ·rename_i h2;have:¬ways≤((ofs n L (si n num)).length:Int):=fun h3=>h2 ⟨h1,h3⟩;omega
theorem Qi (hw:1≤ways) (h:HT n ways L num k=some x):x∈ofs n L (si n num)∧AI L num=none∧ways≤((ofs n L (si n num)).length:Int):=by
 unfold HT at h;split at h
 ·rename_i h2;cases h;refine⟨?_,h2⟩;have hl:0<(ofs n L (si n num)).length:=by omega
  have hp:=HN k _ hl;simp[List.getD,hp]
 ·cases h
theorem Nw (hn:0<n) (hw:1≤ways) (hf:FW n ways L) (h:HT n ways L num k=some x):HasRoom n ways (dropL L x.num) num:=by intro _;obtain⟨h1,h2,h3⟩:=Qi hw h;rw[Ft];have h4:=Pu (num:=x.num) (l:=ofs n L (si n num)) ⟨x,h1,rfl⟩;have h5:=hf _ (Hb (num:=num) hn);omega
end
section
variable {d:CD} (hb:0<d.n∧d.n≤64∧1≤d.ways∧d.ways≤8) (hf:FW d.n d.ways d.L) (hr:DW d)
include hf hr
theorem DW.drop (hb:0<d.n∧d.n≤64∧1≤d.ways∧d.ways≤8) (k:Int) (g:Option Ln):DW { d with L:=dropL d.L k,giv:=g }:=fun l wr h=>(hr l wr h).drop hb.1 hf k
include hb
theorem RE (line:Int) (hln:0≤line∧line<4294967296) (wr:Bool) (pick:Int):DW (askF d line hln wr pick).1:=by
 unfold askF;split
 ·exact hr
 ·split
  ·exact hr
  ·split
   ·rename_i hv;intro l w' h;cases h;exact TE hv
   ·rename_i x hv;split
    ·intro l w' h;cases h;show HasRoom (outF d x).1.n (outF d x).1.ways (outF d x).1.L line;rename_i ho;unfold outF at ho⊢;split
     ·exact Nw hb.1 hb.2.2.1 hf hv
     ·split
      ·rename_i h1 _ _ h2;rw[if_neg h1] at ho;simp[h2] at ho
      ·exact Nw hb.1 hb.2.2.1 hf hv
    ·exact hr
theorem Ho (m:Msg):DW (takeF.backF d m).1:=by
 unfold takeF.backF;split
 ·rename_i h;have h:Ap ((AI d.L m.line).getD ln0).state=true:=h;obtain⟨y,hy,hd⟩:=Qj h;rw[hd];by_cases hk:m.kind=4
  ·simp only[hk,if_true];intro l w' hl;have hx:AI d.L ({ y with state:=1 }:Ln).num≠none:=by show AI d.L y.num≠none;rw[IC hy,hy];simp
   have hp:Cu d.n d.ways d.L { y with state:=1 }=0:=by unfold Cu;rw[if_neg (by simp[okS]),if_neg (fun hh=>hx hh.1)]
   show HasRoom d.n d.ways (putL d.n d.ways d.L { y with state:=1 }) l;rw[putL_there hx hp];exact(hr l w' hl).repl hx
  ·simp only[if_neg hk];exact DW.drop hf hr hb y.num d.giv
 ·exact hr
theorem Rb (m:Msg):DW (takeF d m).1:=by
 unfold takeF;split
 ·exact hr
 split
 ·split
  ·intro l w' h;cases h
  ·exact hr
 split
 ·split
  ·split
   ·exact hr
   ·exact Ho hb hf hr m
  ·exact Ho hb hf hr m
 split
 ·split
  ·exact hr
  ·exact DW.drop hf hr hb m.line d.giv
 split
 ·exact fun l w' h=>hr l w' h
 ·exact hr
omit hb hf in
theorem QA (m:Msg) (h:dataOk d m=true):Cu d.n d.ways d.L (BH m)=0:=by
 unfold dataOk at h;split at h
 ·rename_i l wr ha;simp only[Bool.and_eq_true,decide_eq_true_eq] at h;have h1:=hr l wr ha;rw[h.1] at h1;have ho:¬okS (BH m)=false:=by simp only[okS,BH,mkL];split<;>decide
  have h2:(BH m).num=m.line:=rfl;unfold Cu;rw[if_neg ho,if_neg];rintro⟨h3,h4⟩;rw[h2] at h3 h4;have:=h1 h3;omega
 ·cases h
omit hf hr hb in
theorem S9 (id:Int) (n:Nat) (ways:Int):DW ⟨id,n,ways,[],none,none⟩:=fun l w' h=>by cases h
end
def IQ (L:List Ln):Prop:=∀x∈L,1≤x.state∧x.state≤3
section
variable {n:Nat} {ways:Int} {L:List Ln} {x:Ln}
theorem IQ.nil:IQ []:=fun x h=>by cases h
theorem IQ.drop (h:IQ L) (k:Int):IQ (dropL L k):=fun x hx=>h x (List.mem_filter.1 hx).1
theorem IQ.putL (h:IQ L) (x:Ln):IQ (putL n ways L x):=by
 unfold Go.Proofs.YtpfijldkkfiooaaGreatDoor.putL;split
 ·rename_i he
  have hx:1≤x.state∧x.state≤3:=by
   unfold Cu at he;split at he
   ·omega
   ·rename_i h2;simp[okS] at h2;omega
  split
  ·intro y hy;rcases List.mem_append.1 hy with hy|hy
   ·exact h y hy
   ·rw[List.mem_singleton] at hy;subst hy;exact hx
  ·intro y hy;rcases JD hy with hy|rfl
   ·exact h y hy
   ·exact hx
 ·exact h
theorem cG (h:IQ L) (num:Int):stateOf L num=0∧AI L num=none∨(1≤stateOf L num∧stateOf L num≤3)∧∃y,AI L num=some y∧stateOf L num=y.state:=by
 unfold stateOf;cases hg:AI L num with
 | none=>exact .inl ⟨rfl,rfl⟩
 | some y=>exact .inr ⟨h y (JC hg),y,rfl,rfl⟩
end
structure DOk (d:CD):Prop where
 id:0≤d.id∧d.id<4
 bd:0<d.n∧d.n≤64∧1≤d.ways∧d.ways≤8
 uniq:D7 d.L
 fits:FW d.n d.ways d.L
 room:DW d
 st:IQ d.L
section
variable {d:CD}
theorem DOk.new {id:Int} {n:Nat} {ways:Int} (hid:0≤id∧id<4) (hb:0<n∧n≤64∧1≤ways∧ways≤8):DOk ⟨id,n,ways,[],none,none⟩:=⟨hid,hb,List.Pairwise.nil,FW.nil (by show 0≤ways;omega),S9 id n ways,IQ.nil⟩
theorem DOk.drop (h:DOk d) (k:Int) (g:Option Ln):DOk { d with L:=dropL d.L k,giv:=g }:=⟨h.id,h.bd,h.uniq.drop k,h.fits.drop k,DW.drop h.fits h.room h.bd k g,h.st.drop k⟩
theorem DOk.out (h:DOk d) (x:Ln):DOk (outF d x).1:=by
 unfold outF;split
 ·exact h.drop x.num d.giv
 ·split
  ·exact h
  ·exact h.drop x.num (some x)
theorem DOk.ask (h:DOk d) (line:Int) (hl:0≤line∧line<4294967296) (wr:Bool) (pick:Int):DOk (askF d line hl wr pick).1:=by
 have hr:=RE h.bd h.fits h.room line hl wr pick
 revert hr
 unfold askF;split
 ·exact fun _=>h
 ·split
  ·exact fun _=>h
  ·split
   ·exact fun hr=>⟨h.id,h.bd,h.uniq,h.fits,hr,h.st⟩
   ·split
    ·intro hr;have ho:=h.out ‹Ln›;exact⟨ho.id,ho.bd,ho.uniq,ho.fits,hr,ho.st⟩
    ·exact fun _=>h
theorem DOk.back (h:DOk d) (m:Msg):DOk (takeF.backF d m).1:=by
 have hr:=Ho h.bd h.fits h.room m
 revert hr
 unfold takeF.backF;split
 ·by_cases k:m.kind=4
  ·simp only[k,if_true];exact fun hr=>⟨h.id,h.bd,h.uniq.putL,h.fits.putL _,hr,h.st.putL _⟩
  ·simp only[if_neg k];exact fun _=>h.drop _ d.giv
 ·exact fun _=>h
theorem DOk.take (h:DOk d) (m:Msg):DOk (takeF d m).1:=by
 have hr:=Rb h.bd h.fits h.room m
 revert hr
 unfold takeF;split
 ·exact fun _=>h
 split
 ·split
  ·exact fun hr=>⟨h.id,h.bd,h.uniq.putL,h.fits.putL _,hr,h.st.putL _⟩
  ·exact fun _=>h
 split
 ·split
  ·split
   ·exact fun _=>h
   ·exact fun _=>h.back m
  ·exact fun _=>h.back m
 split
 ·split
  ·exact fun _=>h
  ·exact fun _=>h.drop m.line d.giv
 split
 ·exact fun hr=>⟨h.id,h.bd,h.uniq,h.fits,hr,h.st⟩
 ·exact fun _=>h
end
structure EOk (n:Int) (d:Ent):Prop where
 asks:0≤d.asks∧d.asks<4
 told:d.told=true→d.waits=0
 own : -1≤d.o∧d.o<4
 q:∀m∈d.q,1≤m.kind∧m.kind≤3∧0≤m.src∧m.src<4∧m.line=n
 waits:0≤d.waits∧d.waits≤4
 kind:d.busy=true→d.kind=1∨d.kind=2
def othK (sh:Sh) (r:Int):Nat→List Int
 | 0=>[]
 | k+1=>if(sh.get k && decide ((k:Int)≠r))=true then othK sh r k++[(k:Int)] else othK sh r k
def othersF (sh:Sh) (r:Int):List Int:=othK sh r 4
def Ab (d:Ent) (r:Int):Ent:={ d with o:=if d.o=r then -1 else d.o }
def Cr (d:Ent) (r:Int):Ent:={ d with o:=r,sh:=sh0 }
def AU (d:Ent) (m:Msg) (waits:Int) (told:Bool):Ent:={ d with busy:=true,asks:=m.src,kind:=m.kind,waits:=waits,told:=told }
def Af (m:Msg) (kind dst:Int) (b:B16:=AE):Msg:=mkM kind 4 dst m.line b m.hn
def beginF (bs:List Int) (d:Ent) (m:Msg):Ent × List Int × List Msg:=
 if m.kind=3 then((Ab d m.src),(if d.o=m.src then setLn bs m.line m.bs else bs),[Af m 7 m.src])
 else
  let e:=Ab d m.src
  if 0≤e.o then(AU e m 1 false,bs,[Af m (3+m.kind) e.o])
  else if m.kind=2 then
   if othersF e.sh m.src=[] then(AU (Cr e m.src) m 0 true,bs,[Af m 10 m.src (Ah bs m.line)])
   else(AU e m (othersF e.sh m.src).length false,bs,(othersF e.sh m.src).map (Af m 6))
  else if othersF e.sh m.src=[] then(AU (Cr e m.src) m 0 true,bs,[Af m 9 m.src (Ah bs m.line)])
  else(AU { e with sh:=e.sh.set m.src true } m 0 true,bs,[Af m 8 m.src (Ah bs m.line)])
def drainF:List Msg→List Int→Ent→Ent × List Int × List Msg
 | [],bs,d=>({ d with q:=[] },bs,[])
 | m::r,bs,d=>if d.busy then({ d with q:=m::r },bs,[])
  else
   let x:=beginF bs { d with q:=r } m
   let y:=drainF r x.2.1 x.1
   (y.1,y.2.1,x.2.2++y.2.2)
def strayF (d:Ent) (m:Msg):Bool:=
 !d.busy || (decide (m.kind<13) && decide (d.waits<1)) || (decide (m.kind=11) && decide (d.o≠m.src)) || (decide (m.kind=12) && (decide (0≤d.o) || !d.sh.get m.src || decide (m.src=d.asks))) || (decide (m.kind=13) && (!d.told || decide (d.asks≠m.src)))
def otherF (bs:List Int) (d:Ent) (m:Msg):Ent × List Int × List Msg:=
 if m.kind=13 then drainF d.q bs { d with busy:=false,asks:=0,kind:=0,waits:=0,told:=false }
 else if m.kind=11 then
  let bs':=setLn bs m.line m.bs
  if d.kind=1 then({ d with o := -1,sh:=(sh0.set m.src true).set d.asks true,waits:=0,told:=true },bs',[Af m 8 d.asks (Ah bs' m.line)])
  else({ Cr d d.asks with waits:=0,told:=true },bs',[Af m 10 d.asks (Ah bs' m.line)])
 else
  if d.waits=1 then({ Cr d d.asks with waits:=0,told:=true },bs,[Af m 10 d.asks (Ah bs m.line)])
  else({ d with sh:=d.sh.set m.src false,waits:=d.waits-1 },bs,[])
def takeH (h:HD) (m:Msg):HD × List Msg × Int:=
 if chk m≠0∨m.dst≠4 then(h,[],2)
 else if(h.E.length:Int)≤m.line then(h,[],4)
 else
  let d:=h.E.getD m.line.toNat ent0
  let put:=fun(x:Ent × List Int × List Msg)=>(({ bs:=x.2.1,E:=h.E.set m.line.toNat x.1 }:HD),x.2.2,(0:Int))
  if m.kind≤3 then
   if d.busy then put ({ d with q:=d.q++[m] },h.bs,[]) else put (beginF h.bs d m)
  else if strayF d m then(h,[],220)
  else put (otherF h.bs d m)
theorem JK (sh:Sh) (r:Int):∀i,(othK sh r i).length≤i
 | 0=>Nat.le_refl _
 | i+1=>by
  have:=JK sh r i;unfold othK;split
  ·simp;omega
  ·omega
section
variable {bs:List Int} {d:Ent} {m:Msg}
theorem Hq (h:m.kind=3):beginF bs d m=(Ab d m.src,(if d.o=m.src then setLn bs m.line m.bs else bs),[Af m 7 m.src]):=by unfold beginF;rw[if_pos h]
theorem IY (h:m.kind=1) (h1:0≤(Ab d m.src).o):beginF bs d m=(AU (Ab d m.src) m 1 false,bs,[Af m 4 (Ab d m.src).o]):=by unfold beginF;rw[if_neg (by omega)];dsimp only;rw[if_pos h1,h];rfl
theorem IZ (h:m.kind=1) (h1:¬0≤(Ab d m.src).o) (h2:0<(othersF (Ab d m.src).sh m.src).length):beginF bs d m=(AU { Ab d m.src with sh:=(Ab d m.src).sh.set m.src true } m 0 true,bs,[Af m 8 m.src (Ah bs m.line)]):=by unfold beginF;rw[if_neg (by omega)];dsimp only;rw[if_neg h1,if_neg (by omega),if_neg (fun e=>by rw[e] at h2;simp at h2)]
theorem I1 (h:m.kind=1) (h1:¬0≤(Ab d m.src).o) (h2:¬0<(othersF (Ab d m.src).sh m.src).length):beginF bs d m=(AU (Cr (Ab d m.src) m.src) m 0 true,bs,[Af m 9 m.src (Ah bs m.line)]):=by unfold beginF;rw[if_neg (by omega)];dsimp only;rw[if_neg h1,if_neg (by omega),if_pos (List.eq_nil_of_length_eq_zero (by omega))]
theorem IV (h:m.kind=2) (h1:0≤(Ab d m.src).o):beginF bs d m=(AU (Ab d m.src) m 1 false,bs,[Af m 5 (Ab d m.src).o]):=by unfold beginF;rw[if_neg (by omega)];dsimp only;rw[if_pos h1,h];rfl
theorem IW (h:m.kind=2) (h1:¬0≤(Ab d m.src).o) (h2:¬(othersF (Ab d m.src).sh m.src).length=0):beginF bs d m=(AU (Ab d m.src) m (othersF (Ab d m.src).sh m.src).length false,bs,(othersF (Ab d m.src).sh m.src).map (Af m 6)):=by unfold beginF;rw[if_neg (by omega)];dsimp only;rw[if_neg h1,if_pos h,if_neg (fun e=>by rw[e] at h2;simp at h2)]
theorem IX (h:m.kind=2) (h1:¬0≤(Ab d m.src).o) (h2:(othersF (Ab d m.src).sh m.src).length=0):beginF bs d m=(AU (Cr (Ab d m.src) m.src) m 0 true,bs,[Af m 10 m.src (Ah bs m.line)]):=by unfold beginF;rw[if_neg (by omega)];dsimp only;rw[if_neg h1,if_pos h,if_pos (List.eq_nil_of_length_eq_zero h2)]
theorem FG:(beginF bs d m).1.q=d.q:=by
 unfold beginF;dsimp only;split
 ·rfl
 ·split
  ·rfl
  ·split
   ·split<;>rfl
   ·split<;>rfl
theorem other_b1 (h:m.kind=11) (hk:d.kind=1):otherF bs d m=({ d with o := -1,sh:=(sh0.set m.src true).set d.asks true,waits:=0,told:=true },setLn bs m.line m.bs,[Af m 8 d.asks (Ah (setLn bs m.line m.bs) m.line)]):=by unfold otherF;rw[if_neg (by omega),if_pos h];dsimp only;rw[if_pos hk]
theorem other_b2 (h:m.kind=11) (hk:¬d.kind=1):otherF bs d m=({ Cr d d.asks with waits:=0,told:=true },setLn bs m.line m.bs,[Af m 10 d.asks (Ah (setLn bs m.line m.bs) m.line)]):=by unfold otherF;rw[if_neg (by omega),if_pos h];dsimp only;rw[if_neg hk]
theorem other_a1 (h:m.kind=12) (hk:d.waits=1):otherF bs d m=({ Cr d d.asks with waits:=0,told:=true },bs,[Af m 10 d.asks (Ah bs m.line)]):=by unfold otherF;rw[if_neg (by omega),if_neg (by omega),if_pos hk]
theorem other_a2 (h:m.kind=12) (hk:¬d.waits=1):otherF bs d m=({ d with sh:=d.sh.set m.src false,waits:=d.waits-1 },bs,[]):=by unfold otherF;rw[if_neg (by omega),if_neg (by omega),if_neg hk]
theorem other_d (h:m.kind=13):otherF bs d m=drainF d.q bs { d with busy:=false,asks:=0,kind:=0,waits:=0,told:=false }:=by unfold otherF;rw[if_pos h]
theorem Jy (h:¬d.o=m.src):Ab d m.src=d:=by unfold Ab;rw[if_neg h]
theorem SY (h:d.o=m.src):Ab d m.src={ d with o := -1 }:=by unfold Ab;rw[if_pos h]
end
theorem begin_bs {bs:List Int} {d:Ent} {m:Msg}:(beginF bs d m).2.1.length=bs.length:=by
 unfold beginF;dsimp only;split
 ·show(if d.o=m.src then setLn bs m.line m.bs else bs).length=_;split
  ·exact Ha _ _ _
  ·rfl
 ·split
  ·rfl
  ·split
   ·split<;>rfl
   ·split<;>rfl
theorem MF:∀(q:List Msg) (bs:List Int) (d:Ent),(drainF q bs d).2.1.length=bs.length
 | [],bs,d=>rfl
 | m::r,bs,d=>by
  unfold drainF;split
  ·rfl
  ·dsimp only;rw[MF r,begin_bs]
theorem other_bs {bs:List Int} {d:Ent} {m:Msg}:(otherF bs d m).2.1.length=bs.length:=by
 unfold otherF;split
 ·exact MF _ _ _
 ·split
  ·dsimp only;split<;>exact Ha _ _ _
  ·split<;>rfl
theorem chk_home {m:Msg} (h:chk m=0) (hd:m.dst=4):CH m.kind=true∧0≤m.src∧m.src<4:=by
 unfold chk Cd at h;have hx:=M5 m.kind;have h2:B2 m.dst=false:=by rw[hd];rfl
 simp[hd,h2,B2] at h;exact⟨h.1,h.2.1,by have:=h.2.2.1;omega⟩
section
variable {w:World} {F:Nat→Prop} {r c:Nat} {E:List Ent} {T:List (Nat × Value)} {N:Nat × List Deferred} {a:Act} {Q:Exit→Act→World→Prop} {ops:Array Oper} {rest:List Oper} {o:Oper}
theorem Ey {n k:Nat} {d:Ent} (hn:n<E.length):Aa (E.set n d) k=if k=n then d else Aa E k:=by
 unfold Aa;simp only[List.getD,List.getElem?_set];by_cases h:n=k
 ·subst h;simp[hn]
 ·rw[if_neg h,if_neg (fun e=>h e.symm)]
end
theorem Kt (n k:Nat):Aa (List.replicate n ent0) k=ent0:=by unfold Aa;simp only[List.getD,List.getElem?_replicate];split<;>rfl
theorem Ll (n:Int):EOk n ent0:=⟨by decide,(by intro h;cases h),by decide,(by intro m hm;cases hm),by decide,(by intro h;cases h)⟩
structure EI (n:Int) (d:Ent):Prop where
 ok:EOk n d
 apart:0≤d.o→d.sh=sh0
 idle:d.busy=false→d.waits=0∧d.told=false
theorem nb {b:Bool} {P:Prop} (h:b=true) (h':b=false):P:=by rw[h] at h';cases h'
theorem pO : -1≤(-1:Int)∧(-1:Int)<4:=by decide
theorem pW0:0≤(0:Int)∧(0:Int)≤4:=by decide
theorem pW1:0≤(1:Int)∧(1:Int)≤4:=by decide
theorem pN:¬0≤(-1:Int):=by decide
theorem EI.ent0 (n:Int):EI n ent0:=⟨Ll n,fun h=>absurd h (by decide),fun _=>⟨rfl,rfl⟩⟩
structure ROk (n:Int) (m:Msg):Prop where
 kind:1≤m.kind∧m.kind≤3
 src:0≤m.src∧m.src<4
 line:m.line=n
theorem EOk.rest {n:Int} {d:Ent} (h:EOk n d):∀m∈d.q,ROk n m:=fun m hm=>by obtain⟨a,b,c,e,f⟩:=h.q m hm;exact⟨⟨a,b⟩,⟨c,e⟩,f⟩
theorem M7 {n:Int} {d:Ent} {r:Int} (h:EI n d):EI n (Ab d r):=by
 unfold Ab;split
 ·exact⟨⟨h.ok.asks,h.ok.told,pO,h.ok.q,h.ok.waits,h.ok.kind⟩,fun h'=>absurd h' pN,h.idle⟩
 ·exact h
theorem GA {n:Int} {d:Ent} {bs:List Int} {m:Msg} (h:EI n d) (_hb:d.busy=false) (hm:ROk n m):EI n (beginF bs d m).1:=by
 have hl:=M7 (r:=m.src) h;by_cases h3:m.kind=3
 ·rw[Hq h3];exact hl
 have hk12:m.kind=1∨m.kind=2:=by have:=hm.kind;omega
 have own:EI n (AU (Cr (Ab d m.src) m.src) m 0 true):=⟨⟨hm.src,fun _=>rfl,(by show -1≤m.src∧m.src<4;have:=hm.src;omega),hl.ok.q,pW0,fun _=>hk12⟩,fun _=>rfl,fun h=>(by cases h)⟩
 by_cases h0:0≤(Ab d m.src).o
 ·have:EI n (AU (Ab d m.src) m 1 false):=⟨⟨hm.src,fun h=>(by cases h),hl.ok.own,hl.ok.q,pW1,fun _=>hk12⟩,hl.apart,fun h=>(by cases h)⟩
  rcases hk12 with hk|hk
  ·rw[IY hk h0];exact this
  ·rw[IV hk h0];exact this
 rcases hk12 with hk|hk
 ·by_cases h1:0<(othersF (Ab d m.src).sh m.src).length
  ·rw[IZ hk h0 h1];exact⟨⟨hm.src,fun _=>rfl,hl.ok.own,hl.ok.q,pW0,fun _ => .inl hk⟩,fun h=>absurd h h0,fun h=>(by cases h)⟩
  ·rw[I1 hk h0 h1];exact own
 ·by_cases h1:(othersF (Ab d m.src).sh m.src).length=0
  ·rw[IX hk h0 h1];exact own
  ·rw[IW hk h0 h1];have:=JK (Ab d m.src).sh m.src 4;exact⟨⟨hm.src,fun h=>(by cases h),hl.ok.own,hl.ok.q,(by show 0≤(((othersF (Ab d m.src).sh m.src).length:Nat):Int)∧(((othersF (Ab d m.src).sh m.src).length:Nat):Int)≤4;unfold othersF;omega),fun _ => .inr hk⟩,fun h=>absurd h h0,fun h=>(by cases h)⟩
theorem drain_cons {m:Msg} {r:List Msg} {bs:List Int} {d:Ent}:drainF (m::r) bs d=if d.busy then({ d with q:=m::r },bs,[]) else((drainF r (beginF bs { d with q:=r } m).2.1 (beginF bs { d with q:=r } m).1).1,(drainF r (beginF bs { d with q:=r } m).2.1 (beginF bs { d with q:=r } m).1).2.1,(beginF bs { d with q:=r } m).2.2++(drainF r (beginF bs { d with q:=r } m).2.1 (beginF bs { d with q:=r } m).1).2.2):=by rw[drainF]
theorem EI.queue {n:Int} {d:Ent} (h:EI n d) (q:List Msg) (hq:∀m∈q,ROk n m):EI n { d with q:=q }:=
 ⟨⟨h.ok.asks,h.ok.told,h.ok.own,fun m hm=>(⟨(hq m hm).kind.1,(hq m hm).kind.2,(hq m hm).src.1,(hq m hm).src.2,(hq m hm).line⟩),h.ok.waits,h.ok.kind⟩,h.apart,h.idle⟩
abbrev NoQ (d:Ent):Prop:=d.busy=false→d.q=[]
theorem MG {n:Int}:∀(q:List Msg) (bs:List Int) (d:Ent),EI n d→(∀m∈q,ROk n m)→EI n (drainF q bs d).1∧NoQ (drainF q bs d).1∧(drainF q bs d).1.q.length≤q.length
 | [],bs,d,h,hq=>⟨h.queue [] hq,fun _=>rfl,Nat.le_refl _⟩
 | m::r,bs,d,h,hq=>by
  have hr:∀x∈r,ROk n x:=fun x hx=>hq x (List.mem_cons_of_mem _ hx);rw[drain_cons];cases hb:d.busy with
  | true=>
   rw[if_pos rfl];refine⟨?_,fun h'=>?_,Nat.le_refl _⟩
   ·have:=h.queue (m::r) hq;rwa[hb] at this
   ·cases h'
  | false=>
   rw[if_neg (by decide)];have hb1:=GA (bs:=bs) (m:=m) (h.queue r hr) (show({ d with q:=r }:Ent).busy=false from hb) (hq m (List.mem_cons_self ..));rw[hb] at hb1;obtain⟨i1,i2,i3⟩:=MG r (beginF bs { o:=d.o,sh:=d.sh,busy:=false,asks:=d.asks,kind:=d.kind,waits:=d.waits,told:=d.told,q:=r } m).2.1 _ hb1 hr;exact⟨i1,i2,by simp only[List.length_cons];omega⟩
theorem Td {n:Int} {d:Ent} {bs:List Int} {m:Msg} (h:EI n d) (hs:strayF d m=false) (hk:m.kind=11∨m.kind=12∨m.kind=13):EI n (otherF bs d m).1∧NoQ (otherF bs d m).1∧(otherF bs d m).1.q.length≤d.q.length:=by
 have hbusy:d.busy=true:=by
  unfold strayF at hs;cases hb:d.busy
  ·rw[hb] at hs;simp at hs
  ·rfl
 rcases hk with hk|hk|hk
 ·by_cases h1:d.kind=1
  ·rw[other_b1 hk h1];exact⟨⟨⟨h.ok.asks,fun _=>rfl,pO,h.ok.q,pW0,h.ok.kind⟩,fun h'=>absurd h' pN,fun h'=>nb hbusy h'⟩,fun h'=>nb hbusy h',Nat.le_refl _⟩
  ·rw[other_b2 hk h1];exact⟨⟨⟨h.ok.asks,fun _=>rfl,(by show -1≤d.asks∧d.asks<4;have:=h.ok.asks;omega),h.ok.q,pW0,h.ok.kind⟩,fun _=>rfl,fun h'=>nb hbusy h'⟩,fun h'=>nb hbusy h',Nat.le_refl _⟩
 ·have hw:=h.ok.waits;simp[strayF,hk] at hs;obtain⟨⟨-,h1⟩,⟨h2,h3⟩,h4⟩:=hs;by_cases h1:d.waits=1
  ·rw[other_a1 hk h1];exact⟨⟨⟨h.ok.asks,fun _=>rfl,(by show -1≤d.asks∧d.asks<4;have:=h.ok.asks;omega),h.ok.q,pW0,h.ok.kind⟩,fun _=>rfl,fun h'=>nb hbusy h'⟩,fun h'=>nb hbusy h',Nat.le_refl _⟩
  ·rw[other_a2 hk h1];exact⟨⟨⟨h.ok.asks,fun ht=>(by have:=h.ok.told ht;omega),h.ok.own,h.ok.q,(by show 0≤d.waits-1∧d.waits-1≤4;omega),h.ok.kind⟩,fun h'=>absurd h' (by show¬0≤d.o;omega),fun h'=>nb hbusy h'⟩,fun h'=>nb hbusy h',Nat.le_refl _⟩
 ·rw[other_d hk];have h':EI n { d with busy:=false,asks:=0,kind:=0,waits:=0,told:=false }:=⟨⟨by show(0:Int)≤0∧(0:Int)<4;decide,fun _=>rfl,h.ok.own,h.ok.q,(by show(0:Int)≤0∧(0:Int)≤4;decide),fun h=>(by cases h)⟩,h.apart,fun _=>⟨rfl,rfl⟩⟩
  exact MG d.q bs _ h' h.ok.rest
theorem take_cases (h:HD) (m:Msg):(∃e,takeH h m=(h,[],e)∧e≠0) ∨
    (chk m=0∧m.dst=4∧(0≤m.src∧m.src<4)∧m.line.toNat<h.E.length∧m.line=((m.line.toNat:Nat):Int) ∧
      ∃x:Ent × List Int × List Msg,takeH h m=(⟨x.2.1,h.E.set m.line.toNat x.1⟩,x.2.2,0) ∧
        ((1≤m.kind∧m.kind≤3∧(Aa h.E m.line.toNat).busy=true∧x=({ Aa h.E m.line.toNat with q:=(Aa h.E m.line.toNat).q++[m] },h.bs,[])) ∨
         (1≤m.kind∧m.kind≤3∧(Aa h.E m.line.toNat).busy=false∧x=beginF h.bs (Aa h.E m.line.toNat) m) ∨
         ((m.kind=11∨m.kind=12∨m.kind=13)∧strayF (Aa h.E m.line.toNat) m=false∧x=otherF h.bs (Aa h.E m.line.toNat) m))):=by
  have hmn:=m.hn;by_cases h0:chk m≠0∨m.dst≠4
  · exact .inl ⟨2,by unfold takeH;rw[if_pos h0],by decide⟩
  by_cases h3:(h.E.length:Int)≤m.line
  · exact .inl ⟨4,by unfold takeH;rw[if_neg h0,if_pos h3],by decide⟩
  have h1:chk m=0:=Decidable.not_not.1 fun h=>h0 (.inl h);have h2:m.dst=4:=Decidable.not_not.1 fun h=>h0 (.inr h);obtain⟨hhome,hsrc⟩:=chk_home h1 h2;unfold CH at hhome;simp only[Bool.or_eq_true,decide_eq_true_eq] at hhome
  have hT:takeH h m=if m.kind≤3 then(if(Aa h.E m.line.toNat).busy then(⟨h.bs,h.E.set m.line.toNat { Aa h.E m.line.toNat with q:=(Aa h.E m.line.toNat).q++[m] }⟩,[],0) else(⟨(beginF h.bs (Aa h.E m.line.toNat) m).2.1,h.E.set m.line.toNat (beginF h.bs (Aa h.E m.line.toNat) m).1⟩,(beginF h.bs (Aa h.E m.line.toNat) m).2.2,0)) else if strayF (Aa h.E m.line.toNat) m then(h,[],220) else(⟨(otherF h.bs (Aa h.E m.line.toNat) m).2.1,h.E.set m.line.toNat (otherF h.bs (Aa h.E m.line.toNat) m).1⟩,(otherF h.bs (Aa h.E m.line.toNat) m).2.2,0):=by
    unfold takeH;rw[if_neg h0,if_neg h3];rfl
  by_cases hk:m.kind≤3
  · rw[hT,if_pos hk];refine .inr ⟨h1,h2,hsrc,by omega,by omega,?_⟩;cases hb:(Aa h.E m.line.toNat).busy with
    | true=>exact⟨({ Aa h.E m.line.toNat with q:=(Aa h.E m.line.toNat).q++[m] },h.bs,[]),by rw[if_pos rfl],.inl ⟨by omega,hk,rfl,rfl⟩⟩
    | false=>exact⟨beginF h.bs (Aa h.E m.line.toNat) m,by rw[if_neg (by decide)],.inr (.inl ⟨by omega,hk,rfl,rfl⟩)⟩
  · rw[hT,if_neg hk];cases hs:strayF (Aa h.E m.line.toNat) m with
    | true=>exact .inl ⟨220,by rw[if_pos rfl],by decide⟩
    | false=>exact .inr ⟨h1,h2,hsrc,by omega,by omega,otherF h.bs (Aa h.E m.line.toNat) m,by rw[if_neg (by decide)],.inr (.inr ⟨by omega,rfl,rfl⟩)⟩
def HI (k:Nat) (h:HD):Prop:=h.E.length=h.bs.length/16∧∀n,n<h.E.length→EI (n:Int) (Aa h.E n)∧NoQ (Aa h.E n)∧(Aa h.E n).q.length≤k
theorem HI.home0 (bs:List Int):HI 0 (home0 bs):=⟨by simp[Go.Proofs.YtpfijldkkfiooaaGreatDoor.home0],fun n _=>by
 rw[show Aa (Go.Proofs.YtpfijldkkfiooaaGreatDoor.home0 bs).E n=Go.Proofs.YtpfijldkkfiooaaGreatDoor.ent0 from Kt _ _]
 exact⟨EI.ent0 _,fun _=>rfl,Nat.le_refl _⟩⟩
theorem HI.mono {k k':Nat} {h:HD} (hi:HI k h) (hk:k≤k'):HI k' h:=⟨hi.1,fun n hn=>⟨(hi.2 n hn).1,(hi.2 n hn).2.1,Nat.le_trans (hi.2 n hn).2.2 hk⟩⟩
theorem HI.put {k k':Nat} {h:HD} (hi:HI k h) (hk:k≤k') {n:Nat} (hn:n<h.E.length) {x:Ent × List Int × List Msg} (hl:x.2.1.length=h.bs.length) (he:EI (n:Int) x.1∧NoQ x.1∧x.1.q.length≤k'):HI k' ⟨x.2.1,h.E.set n x.1⟩:=
 ⟨by show(h.E.set n x.1).length=x.2.1.length/16;rw[List.length_set,hl,hi.1],fun i hI=>by
  rw[List.length_set] at hI;show EI (i:Int) (Aa (h.E.set n x.1) i)∧NoQ (Aa (h.E.set n x.1) i)∧(Aa (h.E.set n x.1) i).q.length≤k';rw[Ey hn];split
  ·rename_i h;subst h;exact he
  ·exact⟨(hi.2 i hI).1,(hi.2 i hI).2.1,Nat.le_trans (hi.2 i hI).2.2 hk⟩⟩
theorem V2 {k:Nat} {h:HD} {m:Msg} (hi:HI k h) (hsrc:0≤m.src∧m.src<4) (hn:m.line.toNat<h.E.length) (hmn:m.line=((m.line.toNat:Nat):Int)) {x:Ent × List Int × List Msg} (hx:(1≤m.kind∧m.kind≤3∧(Aa h.E m.line.toNat).busy=true∧x=({ Aa h.E m.line.toNat with q:=(Aa h.E m.line.toNat).q++[m] },h.bs,[])) ∨
         (1≤m.kind∧m.kind≤3∧(Aa h.E m.line.toNat).busy=false∧x=beginF h.bs (Aa h.E m.line.toNat) m) ∨
         ((m.kind=11∨m.kind=12∨m.kind=13)∧strayF (Aa h.E m.line.toNat) m=false∧x=otherF h.bs (Aa h.E m.line.toNat) m)):EI (m.line.toNat:Int) x.1∧NoQ x.1∧x.1.q.length≤k+1∧x.2.1.length=h.bs.length:=by
  obtain⟨e1,e2,e3⟩:=hi.2 _ hn;rcases hx with⟨a,b,c,rfl⟩|⟨a,b,c,rfl⟩|⟨a,b,rfl⟩
  · refine⟨e1.queue _ fun y hy=>?_,fun h'=>?_,?_,rfl⟩
    · rw[List.mem_append] at hy;rcases hy with hy|hy
      · exact e1.ok.rest y hy
      · simp at hy;subst hy;exact⟨⟨a,b⟩,hsrc,hmn⟩
    · rw[show(Aa h.E m.line.toNat).busy=false from h'] at c;cases c
    · show((Aa h.E m.line.toNat).q++[m]).length≤_;simp;omega
  · refine⟨GA e1 c ⟨⟨a,b⟩,hsrc,hmn⟩,fun h'=>?_,?_,begin_bs⟩
    · rw[FG];exact e2 c
    · rw[FG];omega
  · obtain⟨f1,f2,f3⟩:=Td (bs:=h.bs) e1 b a;exact⟨f1,f2,by omega,other_bs⟩
theorem HI.take {k:Nat} {h:HD} (hi:HI k h) (m:Msg):HI (k+1) (takeH h m).1:=by
 rcases take_cases h m with⟨e,he,_⟩|⟨_,_,hsrc,hn,hmn,x,hx,hc⟩
 ·rw[he];exact hi.mono (Nat.le_succ _)
 ·rw[hx];obtain⟨f1,f2,f3,f4⟩:=V2 hi hsrc hn hmn hc;exact hi.put (Nat.le_succ _) hn f4 ⟨f1,f2,f3⟩
theorem H0 {n k:Int} {d:Ent} {bs:List Int} {m:Msg} (hm:m.line=n) (h0:0≤n) (h1:0≤k) (hk:k.toNat<bs.length/16) (h:k≠n):Ah (beginF bs d m).2.1 k=Ah bs k:=by
 unfold beginF;dsimp only;split
 ·show Ah (if d.o=m.src then setLn bs m.line m.bs else bs) k=_;split
  ·rw[hm];exact KB _ _ _ _ h0 h1 hk h
  ·rfl
 ·split
  ·rfl
  ·split
   ·split<;>rfl
   ·split<;>rfl
theorem H2 {n k:Int} (h0:0≤n) (h1:0≤k) (h:k≠n):∀(q:List Msg) (bs:List Int) (d:Ent),k.toNat<bs.length/16→(∀m∈q,ROk n m)→Ah (drainF q bs d).2.1 k=Ah bs k
 | [],bs,d,hk,hq=>rfl
 | m::r,bs,d,hk,hq=>by
  rw[drain_cons];split
  ·rfl
  ·show Ah (drainF r (beginF bs { d with q:=r } m).2.1 (beginF bs { d with q:=r } m).1).2.1 k=_;rw[H2 h0 h1 h r _ _ (by rw[begin_bs];exact hk) fun x hx=>hq x (List.mem_cons_of_mem _ hx),H0 (hq m (List.mem_cons_self ..)).line h0 h1 hk h]
theorem Ni {n k:Int} {d:Ent} {bs:List Int} {m:Msg} (hm:m.line=n) (hq:∀m∈d.q,ROk n m) (h0:0≤n) (h1:0≤k) (hk:k.toNat<bs.length/16) (h:k≠n):Ah (otherF bs d m).2.1 k=Ah bs k:=by
 unfold otherF;split
 ·exact H2 h0 h1 h _ _ _ hk hq
 ·split
  ·dsimp only;split<;>(rw[hm];exact KB _ _ _ _ h0 h1 hk h)
  ·split<;>rfl
theorem OV {j:Nat} {h:HD} (hi:HI j h) {m:Msg} {k:Int} (h0:0≤k) (hk:k.toNat<h.E.length) (hne:m.line≠k):Aa (takeH h m).1.E k.toNat=Aa h.E k.toNat∧Ah (takeH h m).1.bs k=Ah h.bs k:=by
 rcases take_cases h m with⟨e,he,_⟩|⟨_,_,hsrc,hn,hmn,x,hx,hc⟩
 ·rw[he];exact⟨rfl,rfl⟩
 ·rw[hx];have hmn':=m.hn;obtain⟨e1,e2,e3⟩:=hi.2 _ hn;have hkb:k.toNat<h.bs.length/16:=by rw[←hi.1];exact hk
  refine⟨?_,?_⟩
  ·show Aa (h.E.set m.line.toNat x.1) k.toNat=_;rw[Ey hn,if_neg (by omega)]
  ·rcases hc with⟨a,b,c,rfl⟩|⟨a,b,c,rfl⟩|⟨a,b,rfl⟩
   ·rfl
   ·exact H0 rfl hmn'.1 h0 hkb (Ne.symm hne)
   ·exact Ni rfl (fun y hy=>by have:=e1.ok.rest y hy;rwa[←hmn] at this) hmn'.1 h0 hkb (Ne.symm hne)
def Eo (m:Msg):List (Nat × Int):=
 if m.kind=4∨m.kind=5 then[(0,m.dst)] else if m.kind=11 then[(0,m.src)] else if m.kind=6 then[(1,m.dst)] else if m.kind=12 then[(1,m.src)]
 else if m.kind=8∨m.kind=9∨m.kind=10 then[(2,m.dst)] else if m.kind=13 then[(2,m.src)] else[]
def rl (n:Int) (m:Msg):List (Nat × Int):=if m.line=n then Eo m else[]
def BE (n:Int) (way:List Msg):List (Nat × Int):=way.flatMap (rl n)
def B7 (m:Msg):Nat:=if m.kind=3 then 1 else 8
def cost (m:Msg):Nat:=if m.kind=1∨m.kind=2 then 9 else if m.kind=3 then 2 else if m.kind=4∨m.kind=5∨m.kind=6∨m.kind=8∨m.kind=9∨m.kind=10 then 2 else if m.kind=7∨m.kind=11∨m.kind=12∨m.kind=13 then 1 else 0
def pend (m:Msg):Nat:=if m.kind=1∨m.kind=2∨m.kind=3∨m.kind=7∨m.kind=8∨m.kind=9∨m.kind=10 then 1 else 0
def BW (d:Ent):Bool:=d.busy && !d.told
def sumF {α:Type} (f:α→Nat) (l:List α):Nat:=(l.map f).sum
def ecost (d:Ent):Nat:=(if BW d then 2 else 0)+sumF B7 d.q
def CW (d:Ent):Nat:=(if BW d then 1 else 0)+d.q.length
structure Ig (N:Nat) (m:Msg):Prop where
 line:m.line.toNat<N
 what:((1≤m.kind∧m.kind≤3)∧m.dst=4∧(0≤m.src∧m.src<4)∧(m.kind=3∨m.bs=AE))∨((4≤m.kind∧m.kind≤10)∧(0≤m.dst∧m.dst<4))∨((11≤m.kind∧m.kind≤13)∧m.dst=4∧(0≤m.src∧m.src<4)∧(m.kind=11∨m.bs=AE))
def Exp (d:Ent) (R:List (Nat × Int)):Prop:=
 (d.busy=false∧R=[])∨(d.busy=true∧d.told=true∧R=[(2,d.asks)])∨(d.busy=true∧d.told=false∧0≤d.o∧d.waits=1∧R=[(0,d.o)]) ∨
 (d.busy=true∧d.told=false∧d.o<0∧1≤d.waits∧∃C:List Int,R.Perm (C.map (Prod.mk 1))∧C.Nodup∧((C.length:Nat):Int)=d.waits∧∀c∈C,d.sh.get c=true∧c≠d.asks)
section
variable {α:Type}
theorem sumF_nil (f:α→Nat):sumF f []=0:=rfl
theorem sumF_cons (f:α→Nat) (x:α) (l:List α):sumF f (x::l)=f x+sumF f l:=by simp[sumF]
theorem sumF_app (f:α→Nat) (l l':List α):sumF f (l++l')=sumF f l+sumF f l':=by simp[sumF]
theorem sumF_perm (f:α→Nat) {l l':List α} (h:l.Perm l'):sumF f l=sumF f l':=by
 induction h with
 | nil=>rfl
 | cons x _ ih=>rw[sumF_cons,sumF_cons,ih]
 | swap x y l=>rw[sumF_cons,sumF_cons,sumF_cons,sumF_cons];omega
 | trans _ _ h1 h2=>exact h1.trans h2
theorem JW (f:Ent→Nat):∀(E:List Ent) (n:Nat) (d:Ent),n<E.length→sumF f (E.set n d)+f (Aa E n)=sumF f E+f d
 | [],n,d,h=>by simp at h
 | x::E,0,d,h=>by show sumF f (d::E)+f x=_;rw[sumF_cons,sumF_cons];omega
 | x::E,n+1,d,h=>by have ih:=JW f E n d (by simpa using h);show sumF f (x::E.set n d)+f (Aa E n)=_;rw[sumF_cons,sumF_cons];omega
theorem sumF_le {f:α→Nat} {k:Nat} {l:List α} (h:∀x∈l,f x≤k):sumF f l≤k*l.length:=by
 induction l with
 | nil=>simp[sumF_nil]
 | cons x r ih=>
  have h1:=h x (List.mem_cons_self ..);have h2:=ih fun y hy=>h y (List.mem_cons_of_mem _ hy);rw[sumF_cons,List.length_cons,Nat.mul_succ];omega
theorem FSx {f:α→Nat} {k:Nat} {l:List α} (h:∀x∈l,f x=k):sumF f l=k*l.length:=by
 induction l with
 | nil=>simp[sumF_nil]
 | cons x r ih=>
  have h1:=h x (List.mem_cons_self ..);have h2:=ih fun y hy=>h y (List.mem_cons_of_mem _ hy);rw[sumF_cons,List.length_cons,Nat.mul_succ];omega
end
theorem KS (n:Int) (l l':List Msg):BE n (l++l')=BE n l++BE n l':=by simp[BE]
theorem AZ (n:Int) (m:Msg) (l:List Msg):BE n (m::l)=rl n m++BE n l:=by simp[BE]
theorem JR (n:Int) {l l':List Msg} (h:l.Perm l'):(BE n l).Perm (BE n l'):=by
 induction h with
 | nil=>exact List.Perm.refl _
 | cons x _ ih=>rw[AZ,AZ];exact List.Perm.append_left _ ih
 | swap x y l=>rw[AZ,AZ,AZ,AZ,←List.append_assoc,←List.append_assoc];exact List.Perm.append_right _ List.perm_append_comm
 | trans _ _ h1 h2=>exact h1.trans h2
theorem Exp.perm {d:Ent} {R R':List (Nat × Int)} (h:Exp d R) (hp:R.Perm R'):Exp d R':=by
 rcases h with⟨a,rfl⟩|⟨a,b,rfl⟩|⟨a,b,c,e,rfl⟩|⟨a,b,c,e,C,f,g⟩
 ·exact .inl ⟨a,hp.nil_eq.symm⟩
 ·exact .inr (.inl ⟨a,b,List.perm_singleton.1 hp.symm⟩)
 ·exact .inr (.inr (.inl ⟨a,b,c,e,List.perm_singleton.1 hp.symm⟩))
 ·exact .inr (.inr (.inr ⟨a,b,c,e,C,hp.symm.trans f,g⟩))
theorem Exp.idle {d:Ent} {R:List (Nat × Int)} (h:Exp d R) (hb:d.busy=false):R=[]:=by
 rcases h with⟨a,rfl⟩|⟨a,_⟩|⟨a,_⟩|⟨a,_⟩
 ·rfl
 all_goals rw[hb] at a;cases a
theorem Cn {s:Sh} {c:Int} (h:s.get c=true):0≤c∧c<4:=by
 unfold Sh.get at h;by_cases h0:c=0
 ·omega
 by_cases h1:c=1
 ·omega
 by_cases h2:c=2
 ·omega
 by_cases h3:c=3
 ·omega
 simp[h0,h1,h2,h3] at h
theorem Ca {s:Sh} {i c:Int} {x:Bool} (h:c≠i):(s.set i x).get c=s.get c:=by
 unfold Sh.set;by_cases h0:i=0
 ·subst h0;rw[if_pos rfl];unfold Sh.get;rw[if_neg h,if_neg h]
 by_cases h1:i=1
 ·subst h1;rw[if_neg (by decide),if_pos rfl];unfold Sh.get;simp only[if_neg h]
 by_cases h2:i=2
 ·subst h2;rw[if_neg (by decide),if_neg (by decide),if_pos rfl];unfold Sh.get;simp only[if_neg h]
 by_cases h3:i=3
 ·subst h3;rw[if_neg (by decide),if_neg (by decide),if_neg (by decide),if_pos rfl];unfold Sh.get;simp only[if_neg h]
 simp only[if_neg h0,if_neg h1,if_neg h2,if_neg h3]
theorem EH (sh:Sh) (r:Int):∀(k:Nat) (c:Int),c∈othK sh r k→sh.get c=true∧c≠r∧c<k
 | 0,c,h=>by simp[othK] at h
 | k+1,c,h=>by
  unfold othK at h;split at h
  ·rename_i hc;rw[List.mem_append] at h;rcases h with h|h
   ·obtain⟨a,b,e⟩:=EH sh r k c h;exact⟨a,b,by omega⟩
   ·simp at h;subst h;simp only[Bool.and_eq_true,decide_eq_true_eq] at hc;exact⟨hc.1,hc.2,by omega⟩
  ·obtain⟨a,b,e⟩:=EH sh r k c h;exact⟨a,b,by omega⟩
theorem E3 (sh:Sh) (r:Int):∀k,(othK sh r k).Nodup
 | 0=>List.nodup_nil
 | k+1=>by
  unfold othK;split
  ·rw[List.nodup_append];refine⟨E3 sh r k,by simp,fun x hx y hy e=>?_⟩;simp at hy;have:=(EH sh r k x hx).2.2;omega
  ·exact E3 sh r k
theorem HK:∀(l m:List Int),l.Nodup→(∀x∈l,x∈m)→l.length≤m.length
 | [],_,_,_=>Nat.zero_le _
 | x::l,m,hn,hs=>by
  have hx:x∈m:=hs x (List.mem_cons_self ..);have h1:=HK l (m.erase x) (List.nodup_cons.1 hn).2 fun y hy=>by have hne:y≠x:=fun e=>(List.nodup_cons.1 hn).1 (e ▸ hy);exact(List.mem_erase_of_ne hne).2 (hs y (List.mem_cons_of_mem _ hy))
  have h2:=List.length_erase_of_mem hx;have h3:0<m.length:=List.length_pos_of_mem hx;simp only[List.length_cons];omega
structure NX (N:Nat) (n:Int) (d':Ent) (out:List Msg) (R:List (Nat × Int)) (c p:Nat):Prop where
 good:∀m∈out,Ig N m∧m.line=n
 exp:Exp d' (R++BE n out)
 cost:sumF cost out+ecost d'≤c
 pend:sumF pend out+CW d'=p
theorem D4 {n:Int} {m:Msg} {k dst:Int} {b:B16} (h:m.line=n):rl n (Af m k dst b)=Eo (Af m k dst b):=if_pos h
theorem EL {N:Nat} {n:Int} {m:Msg} {k dst:Int} {b:B16} (h:m.line=n) (hn:n.toNat<N) (hk:4≤k∧k≤10) (hd:0≤dst∧dst<4):Ig N (Af m k dst b)∧(Af m k dst b).line=n:=
 ⟨⟨by show m.line.toNat<N;rw[h];exact hn,.inr (.inl ⟨hk,hd⟩)⟩,h⟩
theorem GZ {N:Nat} {n:Int} {x:Msg} (h:Ig N x∧x.line=n):∀m∈[x],Ig N m∧m.line=n:=fun m hm=>by simp at hm;subst hm;exact h
theorem I2 {N:Nat} {n:Int} {d:Ent} {bs:List Int} {m:Msg} (h:EI n d) (hb:d.busy=false) (hm:ROk n m) (hn:n.toNat<N) :
  NX N n (beginF bs d m).1 (beginF bs d m).2.2 [] (B7 m+sumF B7 d.q) (1+d.q.length):=by
 have hl:=M7 (r:=m.src) h;have hln:=hm.line;have hs:=hm.src;by_cases h3:m.kind=3
 ·rw[Hq h3];have ho:BW (Ab d m.src)=false:=by show(d.busy && !d.told)=false;rw[hb];rfl
  refine⟨GZ (EL hln hn (by decide) hs),.inl ⟨hb,?_⟩,?_,?_⟩
  ·rw[AZ,D4 hln];rfl
  ·show sumF cost [_]+((if BW (Ab d m.src) then 2 else 0)+sumF B7 d.q)≤_;rw[ho,sumF_cons,sumF_nil,show cost (Af m 7 m.src)=1 from rfl,B7,if_pos h3];simp
  ·show sumF pend [_]+((if BW (Ab d m.src) then 1 else 0)+d.q.length)=_;rw[ho,sumF_cons,sumF_nil,show pend (Af m 7 m.src)=1 from rfl];simp
 have hq8:B7 m=8:=by unfold B7;rw[if_neg h3]
 have hk12:m.kind=1∨m.kind=2:=by have:=hm.kind;omega
 -- data at once
 have told:∀(d':Ent) (k:Int) (b:B16),d'.busy=true→d'.told=true→d'.asks=m.src→d'.q=d.q→(k=8∨k=9∨k=10)→NX N n d' [Af m k m.src b] [] (B7 m+sumF B7 d.q) (1+d.q.length):=by
  intro d' k b h1 h2 h3' h4 h5;have ho:BW d'=false:=by unfold BW;rw[h2];simp
  have hc:cost (Af m k m.src b)=2:=by show cost (mkM k 4 m.src m.line b m.hn)=2;unfold cost mkM;rcases h5 with rfl|rfl|rfl<;>simp
  have hp:pend (Af m k m.src b)=1:=by show pend (mkM k 4 m.src m.line b m.hn)=1;unfold pend mkM;rcases h5 with rfl|rfl|rfl<;>simp
  refine⟨GZ (EL hln hn (by omega) hs),.inr (.inl ⟨h1,h2,?_⟩),?_,?_⟩
  ·rw[AZ,D4 hln,h3'];show _++(Eo (mkM k 4 m.src m.line b m.hn)++[])=_;unfold Eo mkM;rcases h5 with rfl|rfl|rfl<;>simp
  ·unfold ecost;rw[ho,h4,sumF_cons,sumF_nil,hc,hq8];simp
  ·unfold CW;rw[ho,h4,sumF_cons,sumF_nil,hp];simp
 by_cases h0:0≤(Ab d m.src).o
 ·have hown:0≤(Ab d m.src).o∧(Ab d m.src).o<4:=⟨h0,hl.ok.own.2⟩
  have hob:BW (AU (Ab d m.src) m 1 false)=true:=rfl;have he:Exp (AU (Ab d m.src) m 1 false) [(0,(Ab d m.src).o)] := .inr (.inr (.inl ⟨rfl,rfl,h0,rfl,rfl⟩))
  have hc:∀k,k=4∨k=5→NX N n (AU (Ab d m.src) m 1 false) [Af m k (Ab d m.src).o] [] (B7 m+sumF B7 d.q) (1+d.q.length):=by
   intro k hk;have hc:cost (Af m k (Ab d m.src).o)=2:=by show cost (mkM k 4 _ m.line AE m.hn)=2;unfold cost mkM;rcases hk with rfl|rfl<;>simp
   have hp:pend (Af m k (Ab d m.src).o)=0:=by show pend (mkM k 4 _ m.line AE m.hn)=0;unfold pend mkM;rcases hk with rfl|rfl<;>simp
   refine⟨GZ (EL hln hn (by omega) hown),?_,?_,?_⟩
   ·rw[AZ,D4 hln];show Exp _ ([]++(Eo (mkM k 4 (Ab d m.src).o m.line AE m.hn)++[]));have:Eo (mkM k 4 (Ab d m.src).o m.line AE m.hn)=[(0,(Ab d m.src).o)]:=by unfold Eo mkM;rcases hk with rfl|rfl<;>simp
    rw[this];exact he
   ·show sumF cost [_]+((if BW (AU (Ab d m.src) m 1 false) then 2 else 0)+sumF B7 d.q)≤_;rw[hob,sumF_cons,sumF_nil,hc,hq8];simp;omega
   ·show sumF pend [_]+((if BW (AU (Ab d m.src) m 1 false) then 1 else 0)+d.q.length)=_;rw[hob,sumF_cons,sumF_nil,hp];simp
  rcases hk12 with hk|hk
  ·rw[IY hk h0];exact hc 4 (.inl rfl)
  ·rw[IV hk h0];exact hc 5 (.inr rfl)
 rcases hk12 with hk|hk
 ·by_cases h1:0<(othersF (Ab d m.src).sh m.src).length
  ·rw[IZ hk h0 h1];exact told _ 8 _ rfl rfl rfl rfl (by decide)
  ·rw[I1 hk h0 h1];exact told _ 9 _ rfl rfl rfl rfl (by decide)
 ·by_cases h1:(othersF (Ab d m.src).sh m.src).length=0
  ·rw[IX hk h0 h1];exact told _ 10 _ rfl rfl rfl rfl (by decide)
  ·rw[IW hk h0 h1];generalize hC:othersF (Ab d m.src).sh m.src=C at h1;have hmem:∀c∈C,(Ab d m.src).sh.get c=true∧c≠m.src:=fun c hc=>by rw[←hC] at hc;obtain⟨a,b,_⟩:=EH _ _ _ _ hc;exact⟨a,b⟩
   have hnd:C.Nodup:=by rw[←hC];exact E3 _ _ _
   have hlen:C.length≤4:=by rw[←hC];exact JK _ _ 4
   have hl3:C.length≤3:=by
    by_cases h4:C.length≤3
    ·exact h4
    exfalso;have hin:∀c∈C,c∈([0,1,2,3]:List Int).erase m.src:=fun c hc=>by have:=Cn (hmem c hc).1;have hne:=(hmem c hc).2;rw[List.Nodup.mem_erase_iff (by decide)];refine⟨hne,?_⟩;simp only[List.mem_cons,List.mem_nil_iff,or_false];omega
    have h5:(([0,1,2,3]:List Int).erase m.src).length=3:=by rw[List.length_erase_of_mem (by simp only[List.mem_cons,List.mem_nil_iff,or_false];omega)];rfl
    have:=HK C _ hnd hin;omega
   have hob:BW (AU (Ab d m.src) m ((C.length:Nat):Int) false)=true:=rfl
   have hr:BE n (C.map (Af m 6))=C.map (Prod.mk 1):=by
    clear hob hl3 hlen hnd hmem h1 hC;induction C with
    | nil=>rfl
    | cons c r ih=>
     rw[List.map_cons,AZ,D4 hln,List.map_cons,ih];rfl
   refine⟨fun x hx=>?_,?_,?_,?_⟩
   ·obtain⟨c,hc,rfl⟩:=List.mem_map.1 hx;exact EL hln hn (by decide) (Cn (hmem c hc).1)
   ·rw[hr];exact .inr (.inr (.inr ⟨rfl,rfl,by show(Ab d m.src).o<0;omega,by show(1:Int)≤((C.length:Nat):Int);omega,C,List.Perm.refl _,hnd,rfl,hmem⟩))
   ·show sumF cost (C.map (Af m 6))+((if BW (AU (Ab d m.src) m ((C.length:Nat):Int) false) then 2 else 0)+sumF B7 d.q)≤_;have:=sumF_le (f:=cost) (k:=2) (l:=C.map (Af m 6)) fun x hx=>by obtain⟨c,_,rfl⟩:=List.mem_map.1 hx;exact Nat.le_refl _
    rw[List.length_map] at this;rw[hob,hq8,if_pos rfl];omega
   ·show sumF pend (C.map (Af m 6))+((if BW (AU (Ab d m.src) m ((C.length:Nat):Int) false) then 1 else 0)+d.q.length)=_;have:=FSx (f:=pend) (k:=0) (l:=C.map (Af m 6)) fun x hx=>by obtain⟨c,_,rfl⟩:=List.mem_map.1 hx;rfl
    rw[hob,if_pos rfl];omega
theorem Kq {N:Nat} {n:Int} (hn:n.toNat<N):∀(q:List Msg) (bs:List Int) (d:Ent) (R:List (Nat × Int)),EI n d→(∀m∈q,ROk n m)→Exp d R →
  NX N n (drainF q bs d).1 (drainF q bs d).2.2 R ((if BW d then 2 else 0)+sumF B7 q) ((if BW d then 1 else 0)+q.length)
 | [],bs,d,R,h,hq,he=>⟨fun m hm=>(by cases hm),by show Exp _ (R++[]);rw[List.append_nil];exact he,by show sumF cost []+ecost _≤_;rw[sumF_nil];simp[ecost];exact Nat.le_refl _,by show sumF pend []+CW _=_;rw[sumF_nil];simp[CW];rfl⟩
 | m::r,bs,d,R,h,hq,he=>by
  have hr:∀x∈r,ROk n x:=fun x hx=>hq x (List.mem_cons_of_mem _ hx);rw[drain_cons];cases hb:d.busy with
  | true=>
   rw[if_pos rfl];exact⟨fun m hm=>(by cases hm),by show Exp _ (R++[]);rw[List.append_nil];have:Exp d R:=he;unfold Exp at this;rw[hb] at this;exact this,by show sumF cost []+ecost _≤_;rw[sumF_nil];simp[ecost,BW,hb],by show sumF pend []+CW _=_;rw[sumF_nil];simp[CW,BW,hb]⟩
  | false=>
   rw[if_neg (by decide)];obtain rfl:=he.idle hb;have ho:BW d=false:=by unfold BW;rw[hb];rfl
   rw[ho];have hm:=hq m (List.mem_cons_self ..);have hd':=h.queue r hr;have e1:=GA (bs:=bs) (m:=m) hd' (show({ d with q:=r }:Ent).busy=false from hb) hm;have s1:=I2 (N:=N) (bs:=bs) (m:=m) hd' (show({ d with q:=r }:Ent).busy=false from hb) hm hn;rw[hb] at e1 s1;have hqq:(beginF bs { o:=d.o,sh:=d.sh,busy:=false,asks:=d.asks,kind:=d.kind,waits:=d.waits,told:=d.told,q:=r } m).1.q=r:=FG;generalize hx:beginF bs { o:=d.o,sh:=d.sh,busy:=false,asks:=d.asks,kind:=d.kind,waits:=d.waits,told:=d.told,q:=r } m=x at *
   have s2:=Kq hn r x.2.1 x.1 (BE n x.2.2) e1 hr (by have:=s1.exp;rwa[List.nil_append] at this);have c1:=s1.cost;have p1:=s1.pend;have c2:=s2.cost;have p2:=s2.pend;unfold ecost at c1;unfold CW at p1;rw[hqq] at c1 p1;refine⟨fun y hy=>?_,?_,?_,?_⟩
   ·rcases List.mem_append.1 hy with hy|hy
    ·exact s1.good y hy
    ·exact s2.good y hy
   ·rw[KS,List.nil_append];exact s2.exp
   ·show sumF cost (x.2.2++(drainF r x.2.1 x.1).2.2)+ecost (drainF r x.2.1 x.1).1≤(if false=true then 2 else 0)+sumF B7 (m::r);rw[sumF_app,sumF_cons,if_neg (by decide)];dsimp only at c1;omega
   ·show sumF pend (x.2.2++(drainF r x.2.1 x.1).2.2)+CW (drainF r x.2.1 x.1).1=(if false=true then 1 else 0)+(m::r).length;rw[sumF_app,List.length_cons,if_neg (by decide)];dsimp only at p1;omega
theorem JL {N:Nat} {n:Int} {d:Ent} {bs:List Int} {m:Msg} {R:List (Nat × Int)} (h:EI n d) (hk:11≤m.kind∧m.kind≤13) (hln:m.line=n) (hn:n.toNat<N) (he:Exp d (Eo m++R)) :
  strayF d m=false∧NX N n (otherF bs d m).1 (otherF bs d m).2.2 R (ecost d) (CW d):=by
 have hask:=h.ok.asks
 -- told behind it
 have told:∀(d':Ent) (k:Int) (b:B16),R=[]→BW d=true→d'.busy=true→d'.told=true→d'.asks=d.asks→d'.q=d.q→(k=8∨k=10)→NX N n d' [Af m k d.asks b] R (ecost d) (CW d):=by
  intro d' k b hR h0 h1 h2 h3' h4 h5;subst hR;have ho:BW d'=false:=by unfold BW;rw[h2];simp
  have hc:cost (Af m k d.asks b)=2:=by show cost (mkM k 4 d.asks m.line b m.hn)=2;unfold cost mkM;rcases h5 with rfl|rfl<;>simp
  have hp:pend (Af m k d.asks b)=1:=by show pend (mkM k 4 d.asks m.line b m.hn)=1;unfold pend mkM;rcases h5 with rfl|rfl<;>simp
  refine⟨GZ (EL hln hn (by omega) hask),.inr (.inl ⟨h1,h2,?_⟩),?_,?_⟩
  ·rw[AZ,D4 hln,h3'];show _++(Eo (mkM k 4 d.asks m.line b m.hn)++[])=_;unfold Eo mkM;rcases h5 with rfl|rfl<;>simp
  ·unfold ecost;rw[ho,h4,sumF_cons,sumF_nil,hc,h0];simp
  ·unfold CW;rw[ho,h4,sumF_cons,sumF_nil,hp,h0];simp
 have hk':m.kind=11∨m.kind=12∨m.kind=13:=by omega
 rcases hk' with hk|hk|hk
 ·have hro:Eo m=[(0,m.src)]:=by unfold Eo;simp[hk]
  rw[hro] at he;rcases he with⟨_,e⟩|⟨_,_,e⟩|⟨a,b,c,w1,e⟩|⟨_,_,_,_,C,f,_⟩
  ·cases e
  ·simp at e
  ·simp at e;obtain⟨e1,e2⟩:=e;have ho:BW d=true:=by unfold BW;rw[a,b];rfl
   refine⟨by unfold strayF;simp[hk,a,w1,e1],?_⟩;by_cases h1:d.kind=1
   ·rw[other_b1 hk h1];exact told _ 8 _ e2 ho a rfl rfl rfl (by decide)
   ·rw[other_b2 hk h1];exact told _ 10 _ e2 ho a rfl rfl rfl (by decide)
  ·have:=f.subset (List.mem_cons_self ..);simp at this
 ·have hro:Eo m=[(1,m.src)]:=by unfold Eo;simp[hk]
  rw[hro] at he;rcases he with⟨_,e⟩|⟨_,_,e⟩|⟨a,b,c,w1,e⟩|⟨a,b,c,w1,C,f,nd,cl,ce⟩
  ·cases e
  ·simp at e
  ·simp at e
  ·have hin:m.src∈C:=by have:=f.subset (List.mem_cons_self ..);simpa using this
   have ho:BW d=true:=by unfold BW;rw[a,b];rfl
   obtain⟨g1,g2⟩:=ce _ hin;refine⟨by unfold strayF;simp[hk,a,g1,g2];omega,?_⟩;have hR:R.Perm ((C.erase m.src).map (Prod.mk 1)):=by have h1:C.Perm (m.src::C.erase m.src):=List.perm_cons_erase hin;have h2:=h1.map (Prod.mk 1);exact(f.trans h2).cons_inv
   have hl:(C.erase m.src).length=C.length-1:=List.length_erase_of_mem hin;by_cases h1:d.waits=1
   ·rw[other_a1 hk h1];have:C.erase m.src=[]:=List.eq_nil_of_length_eq_zero (by omega);rw[this] at hR;exact told _ 10 _ (List.Perm.eq_nil hR) ho a rfl rfl rfl (by decide)
   ·rw[other_a2 hk h1];refine⟨fun x hx=>(by cases hx),?_,?_,?_⟩
    ·show Exp _ (R++[]);rw[List.append_nil];refine .inr (.inr (.inr ⟨a,b,c,by show 1≤d.waits-1;omega,C.erase m.src,hR,nd.erase _,by show _=d.waits-1;rw[hl];have:0<C.length:=List.length_pos_of_mem hin;omega,fun x hx=>?_⟩));have hx':=(nd.mem_erase_iff).1 hx;obtain⟨g1,g2⟩:=ce x hx'.2;exact⟨by show(d.sh.set m.src false).get x=true;rw[Ca hx'.1];exact g1,g2⟩
    ·show sumF cost []+_≤_;rw[sumF_nil,Nat.zero_add];exact Nat.le_refl _
    ·show sumF pend []+_=_;rw[sumF_nil,Nat.zero_add];rfl
 ·have hro:Eo m=[(2,m.src)]:=by unfold Eo;simp[hk]
  rw[hro] at he;rcases he with⟨_,e⟩|⟨a,b,e⟩|⟨_,_,_,_,e⟩|⟨_,_,_,_,C,f,_⟩
  ·cases e
  ·simp at e;obtain⟨e1,rfl⟩:=e;refine⟨by unfold strayF;simp[hk,a,b,e1],?_⟩;rw[other_d hk];have h':EI n { d with busy:=false,asks:=0,kind:=0,waits:=0,told:=false }:=⟨⟨by show(0:Int)≤0∧(0:Int)<4;decide,fun _=>rfl,h.ok.own,h.ok.q,pW0,fun h=>(by cases h)⟩,h.apart,fun _=>⟨rfl,rfl⟩⟩
   have s:=Kq (N:=N) hn d.q bs _ [] h' h.ok.rest (.inl ⟨rfl,rfl⟩);have ho:BW d=false:=by unfold BW;rw[b];simp
   have c1:ecost d=(if BW { d with busy:=false,asks:=0,kind:=0,waits:=0,told:=false } then 2 else 0)+sumF B7 d.q:=by unfold ecost;rw[ho];rfl
   have p1:CW d=(if BW { d with busy:=false,asks:=0,kind:=0,waits:=0,told:=false } then 1 else 0)+d.q.length:=by unfold CW;rw[ho];rfl
   rw[c1,p1];exact s
  ·simp at e
  ·have:=f.subset (List.mem_cons_self ..);simp at this
structure Sv (T asked turns:Nat) (h:HD) (way:List Msg) (told:Nat):Prop where
 hi:HI turns h
 good:∀m∈way,Ig h.E.length m
 exp:∀n,n<h.E.length→Exp (Aa h.E n) (BE n way)
 phi:turns+(sumF cost way+sumF ecost h.E)≤T
 ask:told+(sumF pend way+sumF CW h.E)=asked
theorem Ig.cost {N:Nat} {m:Msg} (h:Ig N m):1≤Go.Proofs.YtpfijldkkfiooaaGreatDoor.Ch.cost m:=by
 unfold Go.Proofs.YtpfijldkkfiooaaGreatDoor.Ch.cost;rcases h.what with⟨a,_⟩|⟨a,_⟩|⟨a,_⟩
 all_goals (repeat' split)<;>omega
theorem VM {m:Msg} {n:Int} (h:m.line=n):rl n m=Eo m:=if_pos h
theorem Nt {m:Msg} {n:Int} (h:¬m.line=n):rl n m=[]:=if_neg h
theorem Nv {n:Int} {k:Int} {out:List Msg} (h:∀m∈out,m.line=k) (hne:¬k=n):BE n out=[]:=by
 induction out with
 | nil=>rfl
 | cons m r ih=>
  rw[AZ,Nt (by rw[h m (List.mem_cons_self ..)];exact hne),ih fun x hx=>h x (List.mem_cons_of_mem _ hx)];rfl
theorem Ig.chk {N:Nat} {m:Msg} (h:Ig N m) (hd:m.dst=4):Go.Proofs.YtpfijldkkfiooaaGreatDoor.chk m=0∧(0≤m.src∧m.src<4)∧((1≤m.kind∧m.kind≤3)∨(11≤m.kind∧m.kind≤13)):=by
 rcases h.what with⟨a,_,c,e⟩|⟨_,b⟩|⟨a,_,c,e⟩
 ·refine⟨?_,c,.inl a⟩;have hs:B2 m.src=true:=by unfold B2;simp;omega
  have hh:CH m.kind=true:=by unfold CH;simp;omega
  have hb:Cb m.kind=true∨m.bs=AE:=e.imp (fun h=>by unfold Cb;simp[h]) id;unfold Go.Proofs.YtpfijldkkfiooaaGreatDoor.chk Cd;rcases hb with hb|hb<;>simp[hd,hs,hh,hb,bs0]
 ·omega
 ·refine⟨?_,c,.inr a⟩;have hs:B2 m.src=true:=by unfold B2;simp;omega
  have hh:CH m.kind=true:=by unfold CH;simp;omega
  have hb:Cb m.kind=true∨m.bs=AE:=e.imp (fun h=>by unfold Cb;simp[h]) id;unfold Go.Proofs.YtpfijldkkfiooaaGreatDoor.chk Cd;rcases hb with hb|hb<;>simp[hd,hs,hh,hb,bs0]
theorem take_zero {h:HD} {m:Msg} (h0:chk m=0) (h1:m.dst=4) (h2:m.line.toNat<h.E.length) (h3:3<m.kind→strayF (Aa h.E m.line.toNat) m=false):(takeH h m).2.2=0:=by
 have hmn:=m.hn;unfold takeH;rw[if_neg (by simp[h0,h1]),if_neg (by omega)];dsimp only;by_cases hk:m.kind≤3
 ·rw[if_pos hk];split<;>rfl
 ·rw[if_neg hk,show h.E.getD m.line.toNat ent0=Aa h.E m.line.toNat from rfl,h3 (by omega),if_neg (by decide)]
theorem Nu {m:Msg} (h:1≤m.kind∧m.kind≤3):Eo m=[]:=by
 unfold Eo
 (repeat' rw[if_neg (by omega)])
theorem MA {m:Msg} (h:1≤m.kind∧m.kind≤3):cost m=B7 m+1∧pend m=1:=by
 unfold cost pend B7;constructor
 ·by_cases h3:m.kind=3
  ·rw[if_neg (by omega),if_pos h3,if_pos h3]
  ·rw[if_pos (by omega),if_neg h3]
 ·rw[if_pos (by omega)]
theorem Mz {m:Msg} (h:11≤m.kind∧m.kind≤13):cost m=1∧pend m=0:=by
 unfold cost pend;constructor
 ·rw[if_neg (by omega),if_neg (by omega),if_neg (by omega),if_pos (by omega)]
 ·rw[if_neg (by omega)]
theorem Sv.take {T asked turns:Nat} {h:HD} {way rest:List Msg} {told:Nat} {m:Msg} (s:Sv T asked turns h way told) (hp:way.Perm (m::rest)) (hd:m.dst=4) :
  (takeH h m).2.2=0∧Sv T asked (turns+1) (takeH h m).1 (rest++(takeH h m).2.1) told:=by
 have hg:=s.good m (hp.symm.subset (List.mem_cons_self ..));obtain⟨hc,hsrc,hk⟩:=hg.chk hd;have hln:=hg.line;have hmn:=m.hn;have hline:m.line=((m.line.toNat:Nat):Int):=by omega
 have hrest:∀x∈rest,Ig h.E.length x:=fun x hx=>s.good x (hp.symm.subset (List.mem_cons_of_mem _ hx));obtain⟨e1,e2,e3⟩:=s.hi.2 _ hln;have hexp:=(s.exp _ hln).perm (JR _ hp);rw[AZ,VM hline] at hexp;have hcost:=sumF_perm cost hp;have hpend:=sumF_perm pend hp;rw[sumF_cons] at hcost hpend;have hphi:=s.phi;have hask:=s.ask;have hz:(takeH h m).2.2=0:=by refine take_zero hc hd hln fun h3=>?_;exact(JL (N:=h.E.length) (bs:=h.bs) e1 (by omega) hline (by omega) hexp).1
 refine⟨hz,?_⟩;have hI:=s.hi.take m;rcases take_cases h m with⟨e,he,hne⟩|⟨_,_,_,_,_,x,hx,hcs⟩
 ·rw[he] at hz;exact absurd hz hne
 ·rw[hx] at hI⊢;have hE:(h.E.set m.line.toNat x.1).length=h.E.length:=List.length_set
  -- what all three have in common
  have fin:NX h.E.length (m.line.toNat:Int) x.1 x.2.2 (BE (m.line.toNat:Int) rest) (cost m-1+ecost (Aa h.E m.line.toNat)) (pend m+CW (Aa h.E m.line.toNat))→1≤cost m→Sv T asked (turns+1) ⟨x.2.1,h.E.set m.line.toNat x.1⟩ (rest++x.2.2) told:=by
   intro st hc1;refine⟨hI,?_,?_,?_,?_⟩
   ·intro y hy;show Ig (h.E.set m.line.toNat x.1).length y;rw[hE];rcases List.mem_append.1 hy with hy|hy
    ·exact hrest y hy
    ·exact(st.good y hy).1
   ·intro n hn;show Exp (Aa (h.E.set m.line.toNat x.1) n) (BE n (rest++x.2.2));replace hn:n<h.E.length:=by rw[←hE];exact hn
    rw[Ey hln,KS];by_cases hnn:n=m.line.toNat
    ·subst hnn;rw[if_pos rfl];exact st.exp
    ·rw[if_neg hnn,Nv (fun y hy=>(st.good y hy).2) (by omega),List.append_nil];have:=(s.exp n hn).perm (JR _ hp);rwa[AZ,Nt (by omega),List.nil_append] at this
   ·show turns+1+(sumF cost (rest++x.2.2)+sumF ecost (h.E.set m.line.toNat x.1))≤T;have h1:=JW ecost h.E m.line.toNat x.1 hln;have h2:=st.cost;rw[sumF_app];omega
   ·show told+(sumF pend (rest++x.2.2)+sumF CW (h.E.set m.line.toNat x.1))=asked;have h1:=JW CW h.E m.line.toNat x.1 hln;have h2:=st.pend;rw[sumF_app];omega
  rcases hcs with⟨a,b,c,rfl⟩|⟨a,b,c,rfl⟩|⟨a,b,rfl⟩
  ·obtain⟨k1,k2⟩:=MA ⟨a,b⟩;rw[Nu ⟨a,b⟩,List.nil_append] at hexp;refine fin ⟨fun y hy=>(by cases hy),?_,?_,?_⟩ (by omega)
   ·show Exp _ (_++[]);rw[List.append_nil];exact hexp
   ·show sumF cost []+((if BW (Aa h.E m.line.toNat) then 2 else 0)+sumF B7 ((Aa h.E m.line.toNat).q++[m]))≤_;rw[sumF_nil,sumF_app,sumF_cons,sumF_nil,k1];unfold ecost;omega
   ·show sumF pend []+((if BW (Aa h.E m.line.toNat) then 1 else 0)+((Aa h.E m.line.toNat).q++[m]).length)=_;rw[sumF_nil,List.length_append,k2];unfold CW;simp only[List.length_cons,List.length_nil];omega
  ·obtain⟨k1,k2⟩:=MA ⟨a,b⟩;rw[Nu ⟨a,b⟩,List.nil_append] at hexp;have st:=I2 (N:=h.E.length) (bs:=h.bs) e1 c ⟨⟨a,b⟩,hsrc,hline⟩ (by omega);have ho:BW (Aa h.E m.line.toNat)=false:=by unfold BW;rw[c];rfl
   rw[hexp.idle c] at fin;refine fin ⟨st.good,st.exp,?_,?_⟩ (by omega)
   ·have:=st.cost;unfold ecost at this⊢;rw[ho,k1];simp only[Bool.false_eq_true,if_false];omega
   ·have:=st.pend;unfold CW at this⊢;rw[ho,k2];simp only[Bool.false_eq_true,if_false];omega
  ·obtain⟨k1,k2⟩:=Mz (m:=m) (by omega);have st:=(JL (N:=h.E.length) (bs:=h.bs) e1 (by omega) hline (by omega) hexp).2;refine fin ⟨st.good,st.exp,?_,?_⟩ (by omega)
   ·have:=st.cost;omega
   ·have:=st.pend;omega
structure CV where
 s:Int
 b:B16
 g:Option B16
 a:Option Bool
abbrev ER:=Int × Int × B16
def er (m:Msg):List ER:=if 4≤m.kind∧m.kind≤13∧m.kind≠7 then[(m.kind,if m.kind≤10 then m.dst else m.src,if 8≤m.kind∧m.kind≤11 then m.bs else AE)] else[]
def gt (c:Int) (m:Msg):List Bool:=if m.src=c∧(m.kind=1∨m.kind=2) then[decide (m.kind=2)] else[]
def pt (c:Int) (m:Msg):List B16:=if m.src=c∧m.kind=3 then[m.bs] else[]
def kt (c:Int) (m:Msg):List Unit:=if m.dst=c∧m.kind=7 then[()] else[]
def wr (s:Int):Prop:=s=2∨s=3
def Es (v:CV) (P:List B16) (cur:B16):Prop:=(wr v.s∧v.b=cur∧v.g=none)∨(v.s=0∧v.g=some cur∧P=[cur])
def Cx (M:Int) (v:Int→CV) (o:Int):Prop:=∀c,0≤c→c<M→c≠o→(v c).s=0
def CA (M:Int) (sh:Sh) (mem cur:B16) (v:Int→CV):Prop:=mem=cur∧∀c,0≤c→c<M→(v c).s=0∨((v c).s=1∧(v c).b=cur∧sh.get c=true)
inductive Ph (M:Int) (d:Ent) (mem cur:B16) (v:Int→CV) (P:Int→List B16):List ER→Bool→Prop
 | idleO:d.busy=false→0≤d.o→Es (v d.o) (P d.o) cur→Cx M v d.o→Ph M d mem cur v P [] false
 | idleS:d.busy=false→d.o<0→CA M d.sh mem cur v→Ph M d mem cur v P [] false
 | fwd:d.busy=true→d.told=false→0≤d.o→d.waits=1→d.o≠d.asks→Es (v d.o) (P d.o) cur→Cx M v d.o→Ph M d mem cur v P [(3+d.kind,d.o,AE)] true
 | back:d.busy=true→d.told=false→0≤d.o→d.waits=1→d.o≠d.asks→Cx M v d.o→((v d.o).s=0∨((v d.o).s=1∧(v d.o).b=cur∧d.kind=1))→Ph M d mem cur v P [(11,d.o,cur)] true
 | drops (C:List (Int × Bool)):d.busy=true→d.told=false→d.o<0→d.kind=2→CA M d.sh mem cur v→(C.map Prod.fst).Nodup→((C.length:Nat):Int)=d.waits→1≤d.waits →
   (∀x∈C,d.sh.get x.1=true∧x.1≠d.asks∧(x.2=true→(v x.1).s=0))→(∀c,d.sh.get c=true→c=d.asks∨c∈C.map Prod.fst)→Ph M d mem cur v P (C.map fun x=>(if x.2 then 12 else 6,x.1,AE)) true
 | dataO (k:Int):d.busy=true→d.told=true→d.o=d.asks→Cx M v d.asks→((v d.asks).s=0∨((v d.asks).s=1∧(v d.asks).b=cur))→((k=9∧d.kind=1)∨(k=10∧d.kind=2))→Ph M d mem cur v P [(k,d.asks,cur)] true
 | dataS:d.busy=true→d.told=true→d.o<0→d.kind=1→CA M d.sh mem cur v→d.sh.get d.asks=true→Ph M d mem cur v P [(8,d.asks,cur)] true
 | doneO:d.busy=true→d.told=true→d.o=d.asks→Es (v d.asks) (P d.asks) cur→Cx M v d.asks→Ph M d mem cur v P [(13,d.asks,AE)] false
 | doneS:d.busy=true→d.told=true→d.o<0→CA M d.sh mem cur v→Ph M d mem cur v P [(13,d.asks,AE)] false
def Eg (d:Ent) (sv:Bool) (c:Int):List Bool:=if sv=true∧d.asks=c then[decide (d.kind=2)] else[]
structure Tok (d:Ent) (sv:Bool) (c:Int) (v:CV) (G:List Bool) (P:List B16) (A:List Unit):Prop where
 ask:G++Eg d sv c=v.a.toList
 put:(v.g=none∧P=[]∧A=[])∨(∃b,v.g=some b∧((P=[b]∧A=[])∨(P=[]∧A=[()])))
 giv:v.g≠none→v.s=0∧v.a=none
 st:∀w,v.a=some w→v.s=0∨(v.s=1∧w=true)
 rng:v.s=0∨v.s=1∨v.s=2∨v.s=3
structure LI (M:Int) (d:Ent) (mem cur:B16) (v:Int→CV) (R:List ER) (G:Int→List Bool) (P:Int→List B16) (A:Int→List Unit):Prop where
 ph:∃R' sv,R.Perm R'∧Ph M d mem cur v P R' sv∧∀c,0≤c→c<M→Tok d sv c (v c) (G c) (P c) (A c)
 shr:∀c,d.sh.get c=true→c<M
 own:d.o<M
 ask:d.busy=true→0≤d.asks∧d.asks<M
theorem wr_ne {s:Int} (h:wr s):s≠0∧s≠1:=by unfold wr at h;omega
theorem VB {α:Type} {x:α} {l:List α} {o:Option α} (h:x::l=o.toList):l=[]∧o=some x:=by
 cases o with
 | none=>cases h
 | some y=>simp at h;obtain⟨rfl,rfl⟩:=h;exact⟨rfl,rfl⟩
theorem LI.idle {M:Int} {d:Ent} {mem cur:B16} {v:Int→CV} {R:List ER} {G:Int→List Bool} {P:Int→List B16} {A:Int→List Unit} (h:LI M d mem cur v R G P A) (hb:d.busy=false) :
  R=[]∧((0≤d.o∧Es (v d.o) (P d.o) cur∧Cx M v d.o)∨(d.o<0∧CA M d.sh mem cur v))∧∀c,0≤c→c<M→Tok d false c (v c) (G c) (P c) (A c):=by
 obtain⟨R',sv,hp,hph,ht⟩:=h.ph;cases hph with
 | idleO a b c e=>exact⟨hp.eq_nil,.inl ⟨b,c,e⟩,ht⟩
 | idleS a b c=>exact⟨hp.eq_nil,.inr ⟨b,c⟩,ht⟩
 | fwd a=>rw[hb] at a;cases a
 | back a=>rw[hb] at a;cases a
 | drops C a=>rw[hb] at a;cases a
 | dataO k a=>rw[hb] at a;cases a
 | dataS a=>rw[hb] at a;cases a
 | doneO a=>rw[hb] at a;cases a
 | doneS a=>rw[hb] at a;cases a
theorem Tok.move {d d':Ent} {sv sv':Bool} {c:Int} {v:CV} {G G':List Bool} {P:List B16} {A:List Unit} (t:Tok d sv c v G P A) (h:G'++Eg d' sv' c=G++Eg d sv c):Tok d' sv' c v G' P A:=
 ⟨by rw[h];exact t.ask,t.put,t.giv,t.st,t.rng⟩
def G9 {α:Type} (F:Int→List α) (r:Int) (c:Int):List α:=if c=r then[] else F c
theorem E6 (m:Msg) (k dst:Int) (b:B16) (hk:4≤k∧k≤10∧k≠7):er (Af m k dst b)=[(k,dst,if 8≤k∧k≤11 then b else AE)]:=by show er (mkM k 4 dst m.line b m.hn)=_;unfold er mkM;rw[if_pos (by show 4≤k∧k≤13∧k≠7;omega)];show[(k,if k≤10 then dst else 4,if 8≤k∧k≤11 then b else AE)]=_;rw[if_pos (by omega)]
theorem LC {sh:Sh} {r c:Int} (h:sh.get c=true) (hc:c≠r) (h0:0≤c):∀k:Nat,c<k→c∈othK sh r k
 | 0,hk=>by omega
 | k+1,hk=>by
  unfold othK;by_cases e:c=k
  ·subst e;rw[if_pos (by rw[h];simp[hc])];simp
  ·have:=LC h hc h0 k (by omega);split
   ·exact List.mem_append_left _ this
   ·exact this
theorem EM {s:Sh} {i:Int} {x:Bool} (h:0≤i∧i<4):(s.set i x).get i=x:=by
 obtain rfl|rfl|rfl|rfl:i=0∨i=1∨i=2∨i=3:=by omega
 all_goals rfl
theorem Fy {c:Int}:sh0.get c=true→False:=by
 unfold sh0 Sh.get
 (repeat' split)<;>simp
section
variable {M:Int} {d:Ent} {bs:List Int} {cur:B16} {v:Int→CV} {G:Int→List Bool} {P:Int→List B16} {A:Int→List Unit} {m:Msg} {n:Int}
structure Snt (M n:Int) (out:List Msg):Prop where
 what:∀y∈out,y.line=n∧(4≤y.kind∧y.kind≤10)∧y.kind≠7∧(0≤y.dst∧y.dst<M)
theorem L3 {k dst:Int} {b:B16} (hn:m.line=n) (hk:4≤k∧k≤10∧k≠7) (hd:0≤dst∧dst<M):Snt M n [Af m k dst b]:=⟨fun y hy=>by simp at hy;subst hy;exact⟨hn,⟨hk.1,hk.2.1⟩,hk.2.2,hd⟩⟩
theorem Qw (h:LI M d (Ah bs n) cur v [] G P A) (hM:M≤4) (hi:EI n d) (hb:d.busy=false) (hm:ROk n m) (hr:m.src<M) (hk:m.kind=1∨m.kind=2) (hG:G m.src=[decide (m.kind=2)]) :
  LI M (beginF bs d m).1 (Ah (beginF bs d m).2.1 n) cur v ((beginF bs d m).2.2.flatMap er) (G9 G m.src) P A∧Snt M n (beginF bs d m).2.2:=by
 obtain⟨-,hph,ht⟩:=h.idle hb;have hs:=hm.src;have hln:=hm.line;have tr:=ht m.src hs.1 hr;have ha:(v m.src).a=some (decide (m.kind=2)):=by have:=tr.ask;unfold Eg at this;rw[hG,if_neg (by simp),List.append_nil] at this;exact(VB this).2
 have hg:(v m.src).g=none:=by
  cases hg:(v m.src).g with
  | none=>rfl
  | some b=>have:=(tr.giv (by rw[hg];simp)).2;rw[ha] at this;cases this
 have hst:=tr.st _ ha
 -- tokens behind it
 have tok:∀d':Ent,d'.asks=m.src→d'.kind=m.kind→∀c,0≤c→c<M→Tok d' true c (v c) (G9 G m.src c) (P c) (A c):=by
  intro d' h1 h2 c hc hc';refine(ht c hc hc').move ?_;unfold G9 Eg;by_cases e:c=m.src
  ·subst e;rw[if_pos rfl,if_pos ⟨rfl,h1⟩,hG,h2];simp
  ·rw[if_neg e,if_neg (by rw[h1];exact fun h=>e h.2.symm)];simp
 have hl:Ab d m.src=d:=by
  refine Jy fun ho=>?_;rcases hph with⟨h0,hH,_⟩|⟨h0,_⟩
  ·rw[ho] at hH;rcases hH with⟨hw,_⟩|⟨_,hg',_⟩
   ·have:=wr_ne hw;omega
   ·rw[hg] at hg';cases hg'
  ·omega
 rcases hph with⟨h0,hH,hA⟩|⟨h0,hS⟩
 · -- an owner is asked
  have hne:d.o≠m.src:=fun e=>by
   rw[e] at hH;rcases hH with⟨hw,_⟩|⟨_,hg',_⟩
   ·have:=wr_ne hw;omega
   ·rw[hg] at hg';cases hg'
  have e:beginF bs d m=(AU d m 1 false,bs,[Af m (3+m.kind) d.o]):=by
   rcases hk with hk|hk
   ·rw[IY hk (by rw[hl];exact h0),hl,hk];rfl
   ·rw[IV hk (by rw[hl];exact h0),hl,hk];rfl
  rw[e];refine⟨⟨⟨_,true,?_,Ph.fwd (d:=AU d m 1 false) rfl rfl h0 rfl hne hH hA,tok _ rfl rfl⟩,h.shr,h.own,fun _=>⟨hs.1,hr⟩⟩,L3 hln (by omega) ⟨h0,h.own⟩⟩;rw[List.flatMap_cons,E6 _ _ _ _ (by omega),if_neg (by omega)];exact List.Perm.refl _
 ·obtain⟨hmem,hSh⟩:=hS;have hrs:=hSh m.src hs.1 hr
  -- the bytes at once,to write
  have give:∀k:Int,(k=9∧m.kind=1)∨(k=10∧m.kind=2)→othersF d.sh m.src=[]→LI M (AU (Cr d m.src) m 0 true) (Ah bs n) cur v ([Af m k m.src (Ah bs m.line)].flatMap er) (G9 G m.src) P A∧Snt M n [Af m k m.src (Ah bs m.line)]:=by
   intro k hk' ho;refine⟨⟨⟨_,true,?_,Ph.dataO (d:=AU (Cr d m.src) m 0 true) k rfl rfl rfl (fun c hc hc' hne=>?_) (hrs.imp id fun h=>⟨h.1,h.2.1⟩) hk',tok _ rfl rfl⟩,fun c hc=>(Fy hc).elim,hr,fun _=>⟨hs.1,hr⟩⟩,L3 hln (by omega) ⟨hs.1,hr⟩⟩
   ·rw[List.flatMap_cons,E6 _ _ _ _ (by omega),if_pos (by omega),hln,hmem];exact List.Perm.refl _
   ·rcases hSh c hc hc' with h|⟨_,_,h⟩
    ·exact h
    ·have:=LC h (show c≠m.src from hne) hc 4 (by have:=(Cn h).2;omega);rw[show othK d.sh m.src 4=[] from ho] at this;cases this
  have hno:¬0≤(Ab d m.src).o:=by rw[hl];omega
  rcases hk with hk|hk
  ·by_cases ho:0<(othersF d.sh m.src).length
   ·rw[IZ hk hno (by rw[hl];exact ho),hl];refine⟨⟨⟨_,true,?_,Ph.dataS (d:=AU { d with sh:=d.sh.set m.src true } m 0 true) rfl rfl h0 hk ⟨hmem,fun c hc hc'=>?_⟩ (EM hs),tok _ rfl rfl⟩,fun c hc=>?_,h.own,fun _=>⟨hs.1,hr⟩⟩,L3 hln (by decide) ⟨hs.1,hr⟩⟩
    ·rw[List.flatMap_cons,E6 _ _ _ _ (by decide),if_pos (by decide),hln,hmem];exact List.Perm.refl _
    ·refine(hSh c hc hc').imp id fun⟨h1,h2,h3⟩=>⟨h1,h2,?_⟩
     show(d.sh.set m.src true).get c=true;by_cases e:c=m.src
     ·subst e;exact EM hs
     ·rw[Ca e];exact h3
    ·by_cases e:c=m.src
     ·subst e;exact hr
     ·have hc':(d.sh.set m.src true).get c=true:=hc;rw[Ca e] at hc';exact h.shr c hc'
   ·rw[I1 hk hno (by rw[hl];exact ho),hl];exact give 9 (.inl ⟨rfl,hk⟩) (List.eq_nil_of_length_eq_zero (by omega))
  ·by_cases ho:(othersF d.sh m.src).length=0
   ·rw[IX hk hno (by rw[hl];exact ho),hl];exact give 10 (.inr ⟨rfl,hk⟩) (List.eq_nil_of_length_eq_zero ho)
   ·rw[IW hk hno (by rw[hl];exact ho),hl];have hmm:((othersF d.sh m.src).map fun c=>(c,false)).map Prod.fst=othersF d.sh m.src:=by rw[List.map_map];exact List.map_id _
    refine⟨⟨⟨_,true,?_,Ph.drops (d:=AU d m ((othersF d.sh m.src).length:Int) false) ((othersF d.sh m.src).map fun c=>(c,false)) rfl rfl h0 hk ⟨hmem,hSh⟩ (by rw[hmm];exact E3 _ _ _) (by rw[List.length_map];rfl) (by show(1:Int)≤((othersF d.sh m.src).length:Int);omega) (fun x hx=>?_) (fun c hc=>?_),tok _ rfl rfl⟩,h.shr,h.own,fun _=>⟨hs.1,hr⟩⟩,⟨fun y hy=>?_⟩⟩
    ·have:((othersF d.sh m.src).map (Af m 6)).flatMap er=((othersF d.sh m.src).map fun c=>(c,false)).map fun x=>((if x.2 then 12 else 6:Int),x.1,AE):=by
      generalize othersF d.sh m.src=C;induction C with
      | nil=>rfl
      | cons c r ih=>rw[List.map_cons,List.flatMap_cons,ih,E6 _ _ _ _ (by decide),if_neg (by decide)];rfl
     rw[this]
    ·obtain⟨c,hc,rfl⟩:=List.mem_map.1 hx;obtain⟨h1,h2,_⟩:=EH _ _ _ _ hc;exact⟨h1,h2,fun h=>by cases h⟩
    ·by_cases e:c=m.src
     ·exact .inl e
     ·rw[hmm];have:=Cn hc;exact .inr (LC hc e this.1 4 (by omega))
    ·obtain⟨c,hc,rfl⟩:=List.mem_map.1 hy;obtain⟨h1,h2,_⟩:=EH _ _ _ _ hc;exact⟨hln,⟨by show(4:Int)≤6;decide,by show(6:Int)≤10;decide⟩,by show(6:Int)≠7;decide,(Cn h1).1,h.shr c h1⟩
end
theorem Ph.q {M:Int} {d:Ent} {mem cur:B16} {v:Int→CV} {P:Int→List B16} {R:List ER} {sv:Bool} (h:Ph M d mem cur v P R sv) (q:List Msg):Ph M { d with q:=q } mem cur v P R sv:=by
 cases h with
 | idleO a b c e=>exact .idleO a b c e
 | idleS a b c=>exact .idleS a b c
 | fwd a b c e f g i=>exact Ph.fwd (d:={ d with q:=q }) a b c e f g i
 | back a b c e f g i=>exact Ph.back (d:={ d with q:=q }) a b c e f g i
 | drops C a b c e f g i j k l=>exact Ph.drops (d:={ d with q:=q }) C a b c e f g i j k l
 | dataO k a b c e f g=>exact Ph.dataO (d:={ d with q:=q }) k a b c e f g
 | dataS a b c e f g=>exact Ph.dataS (d:={ d with q:=q }) a b c e f g
 | doneO a b c e f=>exact Ph.doneO (d:={ d with q:=q }) a b c e f
 | doneS a b c e=>exact Ph.doneS (d:={ d with q:=q }) a b c e
theorem LI.q {M:Int} {d:Ent} {mem cur:B16} {v:Int→CV} {R:List ER} {G:Int→List Bool} {P:Int→List B16} {A:Int→List Unit} (h:LI M d mem cur v R G P A) (q:List Msg):LI M { d with q:=q } mem cur v R G P A:=by obtain⟨R',sv,hp,hph,ht⟩:=h.ph;exact⟨⟨R',sv,hp,hph.q q,fun c h1 h2=>(ht c h1 h2).move rfl⟩,h.shr,h.own,h.ask⟩
theorem Tn {α:Type} {l:List α} {o:Option α} {w:List α} (hp:l.Perm w) (h:l=o.toList):w=o.toList:=by
 subst h;cases o with
 | none=>exact hp.nil_eq.symm
 | some x=>exact List.perm_singleton.1 hp.symm
theorem LI.perm {M:Int} {d:Ent} {mem cur:B16} {v:Int→CV} {R R':List ER} {G G':Int→List Bool} {P P':Int→List B16} {A A':Int→List Unit} (h:LI M d mem cur v R G P A) (hR:R.Perm R') (hG:∀c,(G c).Perm (G' c)) (hP:∀c,(P c).Perm (P' c)) (hA:∀c,(A c).Perm (A' c)):LI M d mem cur v R' G' P' A':=by
 obtain⟨R9,sv,hp,hph,ht⟩:=h.ph;have pe:∀c b,P c=[b]→P' c=[b]:=fun c b e=>List.perm_singleton.1 ((hP c).symm.trans (by rw[e]));have pn:∀c,P c=[]→P' c=[]:=fun c e=>((by rw[←e];exact hP c:([]:List B16).Perm (P' c))).nil_eq.symm;have an:∀c,A c=[]→A' c=[]:=fun c e=>((by rw[←e];exact hA c:([]:List Unit).Perm (A' c))).nil_eq.symm;have ae:∀c,A c=[()]→A' c=[()]:=fun c e=>List.perm_singleton.1 ((hA c).symm.trans (by rw[e]));have hold:∀c cu,Es (v c) (P c) cu→Es (v c) (P' c) cu:=fun c cu hh=>hh.imp id fun⟨a,b,e⟩=>⟨a,b,pe c _ e⟩
 have ph':Ph M d mem cur v P' R9 sv:=by
  cases hph with
  | idleO a b c e=>exact .idleO a b (hold _ _ c) e
  | idleS a b c=>exact .idleS a b c
  | fwd a b c e f g i=>exact .fwd a b c e f (hold _ _ g) i
  | back a b c e f g i=>exact .back a b c e f g i
  | drops C a b c e f g i j k l=>exact .drops C a b c e f g i j k l
  | dataO k a b c e f g=>exact .dataO k a b c e f g
  | dataS a b c e f g=>exact .dataS a b c e f g
  | doneO a b c e f=>exact .doneO a b c (hold _ _ e) f
  | doneS a b c e=>exact .doneS a b c e
 refine⟨⟨R9,sv,hR.symm.trans hp,ph',fun c h1 h2=>?_⟩,h.shr,h.own,h.ask⟩;have t:=ht c h1 h2;refine⟨Tn (List.Perm.append_right _ (hG c)) t.ask,?_,t.giv,t.st,t.rng⟩;rcases t.put with⟨a,b,e⟩|⟨b,a,⟨e,f⟩|⟨e,f⟩⟩
 ·exact .inl ⟨a,pn _ b,an _ e⟩
 ·exact .inr ⟨b,a,.inl ⟨pe _ _ e,an _ f⟩⟩
 ·exact .inr ⟨b,a,.inr ⟨pn _ e,ae _ f⟩⟩
section
variable {M:Int} {d:Ent} {bs:List Int} {cur:B16} {v:Int→CV} {G:Int→List Bool} {P:Int→List B16} {A:Int→List Unit} {m:Msg} {n:Int}
theorem Xw (m:Msg) (r:Int):er (Af m 7 r)=[]:=by
 show er (mkM 7 4 r m.line AE m.hn)=[]
 unfold er mkM;rw[if_neg (by show¬(4≤(7:Int)∧(7:Int)≤13∧(7:Int)≠7);decide)]
theorem N3 (h:LI M d (Ah bs n) cur v [] G P A) (hb:d.busy=false) (hm:ROk n m) (hr:m.src<M) (hk:m.kind=3) (hP:P m.src=[m.bs]) (h0:0≤n) (hn:n.toNat<bs.length/16) :
  LI M (beginF bs d m).1 (Ah (beginF bs d m).2.1 n) cur v ((beginF bs d m).2.2.flatMap er) G (G9 P m.src) (fun c=>A c++(beginF bs d m).2.2.flatMap (kt c))∧(∀y∈(beginF bs d m).2.2,y.line=n∧y.kind=7∧y.dst=m.src)∧(beginF bs d m).2.2≠[]:=by
 obtain⟨-,hph,ht⟩:=h.idle hb;have hs:=hm.src;have hln:=hm.line;have tr:=ht m.src hs.1 hr
 obtain⟨b9,hg,hPA⟩:∃b,(v m.src).g=some b∧((P m.src=[b]∧A m.src=[])∨(P m.src=[]∧A m.src=[()])):=by
  rcases tr.put with⟨_,a,_⟩|h
  ·rw[hP] at a;cases a
  ·exact h
 obtain⟨hb9,hA9⟩:b9=m.bs∧A m.src=[]:=by
  rcases hPA with⟨a,b⟩|⟨a,_⟩
  ·rw[hP] at a;simp at a;exact⟨a.symm,b⟩
  ·rw[hP] at a;cases a
 subst hb9;have hs0:=(tr.giv (by rw[hg];simp)).1;rw[Hq hk]
 have hkt:∀c,[Af m 7 m.src].flatMap (kt c)=if c=m.src then[()] else[]:=fun c=>by
  show kt c (mkM 7 4 m.src m.line AE m.hn)++[]=_;unfold kt mkM;by_cases e:c=m.src
  ·subst e;simp
  ·simp[e,Ne.symm e]
 have her:[Af m 7 m.src].flatMap er=[]:=by rw[List.flatMap_cons,Xw];rfl
 have tok:∀d':Ent,∀c,0≤c→c<M→Tok d' false c (v c) (G c) (G9 P m.src c) (A c++[Af m 7 m.src].flatMap (kt c)):=fun d' c h1 h2=>by
  have t:=ht c h1 h2;rw[hkt];refine⟨?_,?_,t.giv,t.st,t.rng⟩
  ·have:=t.ask;unfold Eg at this⊢;rw[if_neg (by simp)] at this⊢;exact this
  ·unfold G9;by_cases e:c=m.src
   ·subst e;rw[if_pos rfl,if_pos rfl,hA9];exact .inr ⟨_,hg,.inr ⟨rfl,rfl⟩⟩
   ·rw[if_neg e,if_neg e,List.append_nil];exact t.put
 refine⟨⟨⟨[],false,by rw[her],?_,fun c h1 h2=>tok _ c h1 h2⟩,h.shr,?_,fun h'=>by rw[show d.busy=true from h'] at hb;cases hb⟩,fun y hy=>?_,by simp⟩
 ·rcases hph with⟨o0,hH,hA⟩|⟨o0,hS⟩
  ·by_cases ho:d.o=m.src
   ·rw[SY ho];refine Ph.idleS (d:={ d with o := -1 }) hb (show(-1:Int)<0 by decide) ⟨?_,fun c h1 h2 => .inl ?_⟩
    ·show Ah (if d.o=m.src then setLn bs m.line m.bs else bs) n=cur;rw[if_pos ho,hln,Jz _ _ _ h0 hn];rw[ho] at hH;rcases hH with⟨hw,_⟩|⟨_,hg',_⟩
     ·have:=wr_ne hw;omega
     ·rw[hg] at hg';simpa using hg'
    ·by_cases e:c=m.src
     ·subst e;exact hs0
     ·exact hA c h1 h2 (by rw[ho];exact e)
   ·rw[Jy ho];refine Ph.idleO hb o0 ?_ hA;show Es (v d.o) (if d.o=m.src then[] else P d.o) cur;rw[if_neg ho];exact hH
  ·have ho:¬d.o=m.src:=by omega
   rw[Jy ho];refine Ph.idleS hb o0 ?_;show CA M d.sh (Ah (if d.o=m.src then setLn bs m.line m.bs else bs) n) cur v;rw[if_neg ho];exact hS
 ·show(if d.o=m.src then(-1:Int) else d.o)<M;split
  ·omega
  ·exact h.own
 ·simp at hy;subst hy;exact⟨hln,rfl,rfl⟩
theorem SL {r:Int} (hk:m.kind=1∨m.kind=2) (h:m.src=r):gt r m=[decide (m.kind=2)]:=by unfold gt;rw[if_pos ⟨h,hk⟩]
theorem Jr {r:Int} (h:¬(m.src=r∧(m.kind=1∨m.kind=2))):gt r m=[]:=if_neg h
theorem X9 {r:Int} (hk:m.kind=3) (h:m.src=r):pt r m=[m.bs]:=by unfold pt;rw[if_pos ⟨h,hk⟩]
theorem JN {r:Int} (h:¬(m.src=r∧m.kind=3)):pt r m=[]:=if_neg h
theorem E9 {r:Int} (h:m.kind≠7):kt r m=[]:=if_neg fun e=>h e.2
theorem Kh {GW:Int→List Bool} {PW:Int→List B16} {q:List Msg} (h:LI M d (Ah bs n) cur v [] (fun c=>GW c++(gt c m++q.flatMap (gt c))) (fun c=>PW c++(pt c m++q.flatMap (pt c))) A) (hM:M≤4) (hi:EI n d) (hb:d.busy=false) (hm:ROk n m) (hr:m.src<M) (h0:0≤n) (hn:n.toNat<bs.length/16) :
  LI M (beginF bs d m).1 (Ah (beginF bs d m).2.1 n) cur v ((beginF bs d m).2.2.flatMap er) (fun c=>GW c++q.flatMap (gt c)) (fun c=>PW c++q.flatMap (pt c)) (fun c=>A c++(beginF bs d m).2.2.flatMap (kt c))∧∀y∈(beginF bs d m).2.2,y.line=n∧(4≤y.kind∧y.kind≤10)∧(0≤y.dst∧y.dst<M):=by
 have hs:=hm.src;have tr:=(h.idle hb).2.2 m.src hs.1 hr;by_cases hk:m.kind=3
 ·have hPl:PW m.src++(pt m.src m++q.flatMap (pt m.src))=[m.bs]∧PW m.src=[]∧q.flatMap (pt m.src)=[]:=by
   have hp:=tr.put;rw[X9 hk rfl] at hp⊢;have key:∀b,PW m.src++([m.bs]++q.flatMap (pt m.src))=[b]→PW m.src=[]∧q.flatMap (pt m.src)=[]:=by intro b hb;have hl:=congrArg List.length hb;simp only[List.length_append,List.length_cons,List.length_nil] at hl;exact⟨List.eq_nil_of_length_eq_zero (by omega),List.eq_nil_of_length_eq_zero (by omega)⟩
   rcases hp with⟨_,a,_⟩|⟨b,_,⟨a,_⟩|⟨a,_⟩⟩
   ·simp at a
   ·obtain⟨k1,k2⟩:=key b a;rw[k1,k2];exact⟨rfl,rfl,rfl⟩
   ·simp at a
  obtain⟨hL,hW,hY⟩:=N3 h hb hm hr hk hPl.1 h0 hn;refine⟨hL.perm (List.Perm.refl _) (fun c=>?_) (fun c=>?_) (fun c=>List.Perm.refl _),fun y hy=>?_⟩
  ·rw[Jr (by rintro⟨_,h|h⟩<;>omega)];exact List.Perm.refl _
  ·unfold G9;by_cases e:c=m.src
   ·subst e;rw[if_pos rfl,hPl.2.1,hPl.2.2];exact List.Perm.refl _
   ·rw[if_neg e];show(PW c++(pt c m++q.flatMap (pt c))).Perm _;rw[JN (fun h=>e h.1.symm)];exact List.Perm.refl _
  ·obtain⟨a,b,c⟩:=hW y hy;exact⟨a,by omega,by omega⟩
 ·have hk':m.kind=1∨m.kind=2:=by have:=hm.kind;omega
  have hGl:GW m.src++(gt m.src m++q.flatMap (gt m.src))=[decide (m.kind=2)]∧GW m.src=[]∧q.flatMap (gt m.src)=[]:=by
   have ha:=tr.ask;unfold Eg at ha;rw[if_neg (by simp),List.append_nil,SL hk' rfl] at ha;rw[SL hk' rfl];have hl:=congrArg List.length ha;have hle:(v m.src).a.toList.length≤1:=by cases(v m.src).a<;>simp
   simp only[List.length_append,List.length_cons,List.length_nil] at hl;have k1:GW m.src=[]:=List.eq_nil_of_length_eq_zero (by omega);have k2:q.flatMap (gt m.src)=[]:=List.eq_nil_of_length_eq_zero (by omega);rw[k1,k2];exact⟨rfl,rfl,rfl⟩
  obtain⟨hL,hS⟩:=Qw h hM hi hb hm hr hk' hGl.1;refine⟨hL.perm (List.Perm.refl _) (fun c=>?_) (fun c=>?_) (fun c=>?_),fun y hy=>?_⟩
  ·unfold G9;by_cases e:c=m.src
   ·subst e;rw[if_pos rfl,hGl.2.1,hGl.2.2];exact List.Perm.refl _
   ·rw[if_neg e];show(GW c++(gt c m++q.flatMap (gt c))).Perm _;rw[Jr (fun h=>e h.1.symm)];exact List.Perm.refl _
  ·rw[JN (fun h=>hk h.2)];exact List.Perm.refl _
  ·have:(beginF bs d m).2.2.flatMap (kt c)=[]:=by rw[List.flatMap_eq_nil_iff];exact fun y hy=>E9 (hS.what y hy).2.2.1
   rw[this,List.append_nil]
  ·obtain⟨a,b,_,e⟩:=hS.what y hy;exact⟨a,b,e⟩
theorem MH {GW:Int→List Bool} {PW:Int→List B16} (hM:M≤4) (h0:0≤n):∀(q:List Msg) (bs:List Int) (d:Ent) (R:List ER) (A:Int→List Unit),LI M d (Ah bs n) cur v R (fun c=>GW c++q.flatMap (gt c)) (fun c=>PW c++q.flatMap (pt c)) A→EI n d→(∀m∈q,ROk n m∧m.src<M)→n.toNat<bs.length/16 →
  LI M (drainF q bs d).1 (Ah (drainF q bs d).2.1 n) cur v (R++(drainF q bs d).2.2.flatMap er) (fun c=>GW c++(drainF q bs d).1.q.flatMap (gt c)) (fun c=>PW c++(drainF q bs d).1.q.flatMap (pt c)) (fun c=>A c++(drainF q bs d).2.2.flatMap (kt c))∧(∀y∈(drainF q bs d).2.2,y.line=n∧(4≤y.kind∧y.kind≤10)∧(0≤y.dst∧y.dst<M))∧∀m∈(drainF q bs d).1.q,m.src<M
 | [],bs,d,R,A,h,hi,hq,hn=>by refine⟨?_,(fun y hy=>by cases hy),(fun y hy=>by cases hy)⟩;have:=h.q [];refine this.perm (by show R.Perm (R++[]);rw[List.append_nil]) (fun c=>List.Perm.refl _) (fun c=>List.Perm.refl _) (fun c=>by show(A c).Perm (A c++[]);rw[List.append_nil])
 | m::r,bs,d,R,A,h,hi,hq,hn=>by
  have hr:∀x∈r,ROk n x∧x.src<M:=fun x hx=>hq x (List.mem_cons_of_mem _ hx);rw[drain_cons];by_cases hb:d.busy=true
  ·rw[if_pos hb];refine⟨?_,(fun y hy=>by cases hy),fun y hy=>(hq y hy).2⟩;exact(h.q (m::r)).perm (by show R.Perm (R++[]);rw[List.append_nil]) (fun c=>List.Perm.refl _) (fun c=>List.Perm.refl _) (fun c=>by show(A c).Perm (A c++[]);rw[List.append_nil])
  ·rw[if_neg hb];have hb':d.busy=false:=by simpa using hb
   obtain rfl:=(h.idle hb').1;obtain⟨hm,hms⟩:=hq m (List.mem_cons_self ..);have hd':=hi.queue r fun x hx=>(hr x hx).1;have h':LI M { d with q:=r } (Ah bs n) cur v [] (fun c=>GW c++(gt c m++r.flatMap (gt c))) (fun c=>PW c++(pt c m++r.flatMap (pt c))) A:=(h.q r).perm (List.Perm.refl _) (fun c=>by rw[List.flatMap_cons]) (fun c=>by rw[List.flatMap_cons]) (fun c=>List.Perm.refl _);obtain⟨s1,s2⟩:=Kh h' hM hd' hb' hm hms h0 hn;have e1:=GA (bs:=bs) (m:=m) hd' hb' hm;have hqq:(beginF bs { d with q:=r } m).1.q=r:=FG
   have hbl:(beginF bs { d with q:=r } m).2.1.length=bs.length:=begin_bs;generalize beginF bs { d with q:=r } m=x at *;obtain⟨t1,t2,t3⟩:=MH hM h0 r x.2.1 x.1 (x.2.2.flatMap er) (fun c=>A c++x.2.2.flatMap (kt c)) s1 e1 hr (by rw[hbl];exact hn);refine⟨t1.perm ?_ (fun c=>List.Perm.refl _) (fun c=>List.Perm.refl _) (fun c=>?_),fun y hy=>?_,t3⟩
   ·rw[List.nil_append,List.flatMap_append]
   ·rw[List.flatMap_append,List.append_assoc]
   ·rcases List.mem_append.1 hy with hy|hy
    ·exact s2 y hy
    ·exact t2 y hy
end
section
variable {M:Int} {d:Ent} {bs:List Int} {cur:B16} {v:Int→CV} {G:Int→List Bool} {P:Int→List B16} {A:Int→List Unit} {m:Msg} {n:Int} {R:List ER}
theorem Fh {k c:Int} {b:B16} (hk:m.kind=k) (h1:4≤k∧k≤13∧k≠7) (hc:(if k≤10 then m.dst else m.src)=c) (hb:(if 8≤k∧k≤11 then m.bs else AE)=b):er m=[(k,c,b)]:=by unfold er;rw[hk,if_pos h1,hc,hb]
theorem Ai {α:Type} {x y:α} {l:List α} (h:(x::l).Perm [y]):x=y∧l=[]:=by have:=List.perm_singleton.1 h;simp at this;exact this
theorem GX {α β:Type} {f:α→β} {l:List α} (h:(l.map f).Nodup):l.Nodup:=by
 induction l with
 | nil=>exact List.nodup_nil
 | cons x r ih=>
  rw[List.map_cons,List.nodup_cons] at h;rw[List.nodup_cons];exact⟨fun hx=>h.1 (List.mem_map.2 ⟨x,hx,rfl⟩),ih h.2⟩
theorem KJ {C:List (Int × Bool)} (h:(C.map Prod.fst).Nodup) {x y:Int × Bool} (hx:x∈C) (hy:y∈C) (e:x.1=y.1):x=y:=by
 induction C with
 | nil=>cases hx
 | cons z r ih=>
  rw[List.map_cons,List.nodup_cons] at h;rcases List.mem_cons.1 hx with rfl|hx
  ·rcases List.mem_cons.1 hy with rfl|hy
   ·rfl
   ·exact absurd (List.mem_map.2 ⟨y,hy,e.symm⟩) h.1
  ·rcases List.mem_cons.1 hy with hy|hy
   ·rw[hy] at e;exact absurd (List.mem_map.2 ⟨x,hx,e⟩) h.1
   ·exact ih h.2 hx hy
theorem Te {GW:Int→List Bool} {PW:Int→List B16} (h:LI M d (Ah bs n) cur v (er m++R) (fun c=>GW c++d.q.flatMap (gt c)) (fun c=>PW c++d.q.flatMap (pt c)) A) (hM:M≤4) (hi:EI n d) (hq:∀m∈d.q,m.src<M) (hk:11≤m.kind∧m.kind≤13) (hm:m.line=n) (h0:0≤n) (hn:n.toNat<bs.length/16) :
  LI M (otherF bs d m).1 (Ah (otherF bs d m).2.1 n) cur v (R++(otherF bs d m).2.2.flatMap er) (fun c=>GW c++(otherF bs d m).1.q.flatMap (gt c)) (fun c=>PW c++(otherF bs d m).1.q.flatMap (pt c)) (fun c=>A c++(otherF bs d m).2.2.flatMap (kt c))∧(∀y∈(otherF bs d m).2.2,y.line=n∧(4≤y.kind∧y.kind≤10)∧(0≤y.dst∧y.dst<M))∧∀z∈(otherF bs d m).1.q,z.src<M:=by
 obtain⟨R',sv,hp,hph,ht⟩:=h.ph;have one:∀(k dst:Int) (b:B16),4≤k∧k≤10∧k≠7→(0≤dst∧dst<M)→∀y∈[Af m k dst b],y.line=n∧(4≤y.kind∧y.kind≤10)∧(0≤y.dst∧y.dst<M):=by intro k dst b h1 h2 y hy;simp at hy;subst hy;exact⟨hm,⟨h1.1,h1.2.1⟩,h2⟩
 have nok:∀(k dst:Int) (b:B16),k≠7→∀c,A c=A c++[Af m k dst b].flatMap (kt c):=by intro k dst b h c;rw[List.flatMap_cons,E9 (show(Af m k dst b).kind≠7 from h)];simp
 have tok:∀d':Ent,d'.asks=d.asks→d'.kind=d.kind→d'.q=d.q→∀(out:List Msg),(∀c,A c=A c++out.flatMap (kt c))→∀c,0≤c→c<M→Tok d' sv c (v c) (GW c++d'.q.flatMap (gt c)) (PW c++d'.q.flatMap (pt c)) (A c++out.flatMap (kt c)):=by intro d' h1 h2 h3 out h4 c hc hc';rw[←h4,h3];exact(ht c hc hc').move (by unfold Eg;rw[h1,h2])
 have hk':m.kind=11∨m.kind=12∨m.kind=13:=by omega
 rcases hk' with hk|hk|hk
 ·rw[Fh hk (by decide) (if_neg (by decide)) (if_pos (by decide))] at hp;cases hph with
  | idleO a=>exact absurd hp.length_eq (by simp)
  | idleS a=>exact absurd hp.length_eq (by simp)
  | fwd a b c e f g i=>
   have:=(Ai hp).1;simp only[Prod.mk.injEq] at this;have hkd:=hi.ok.kind a;omega
  | back a b c e f g i=>
   obtain⟨he,rfl⟩:=Ai hp;simp only[Prod.mk.injEq] at he;obtain⟨-,hsrc,hbs⟩:=he;have hask:=h.ask a;have hown:=h.own;have hkd:=hi.ok.kind a;have hmem:Ah (setLn bs m.line m.bs) n=cur:=by rw[hm,Jz _ _ _ h0 hn,hbs]
   by_cases hk1:d.kind=1
   ·rw[other_b1 hk hk1];refine⟨⟨⟨_,true,?_,Ph.dataS (d:={ d with o := -1,sh:=(sh0.set m.src true).set d.asks true,waits:=0,told:=true }) a rfl (show(-1:Int)<0 by decide) hk1 ⟨hmem,fun c h1 h2=>?_⟩ (EM (by omega)),tok { d with o := -1,sh:=(sh0.set m.src true).set d.asks true,waits:=0,told:=true } rfl rfl rfl [Af m 8 d.asks (Ah (setLn bs m.line m.bs) m.line)] (nok 8 d.asks _ (by decide))⟩,fun c hc=>?_,by show(-1:Int)<M;omega,fun _=>hask⟩,one 8 d.asks _ (by decide) hask,hq⟩
    ·rw[List.nil_append,List.flatMap_cons,E6 _ _ _ _ (by decide),if_pos (by decide),hm];rw[hm] at hmem;rw[hmem];exact List.Perm.refl _
    ·by_cases e:c=d.o
     ·subst e;refine i.imp id fun⟨j1,j2,_⟩=>⟨j1,j2,?_⟩
      show((sh0.set m.src true).set d.asks true).get d.o=true;rw[Ca f,hsrc];exact EM (by omega)
     ·exact .inl (g c h1 h2 e)
    ·have hc':((sh0.set m.src true).set d.asks true).get c=true:=hc;by_cases e1:c=d.asks
     ·rw[e1];exact hask.2
     ·rw[Ca e1] at hc';by_cases e2:c=m.src
      ·rw[e2,hsrc];exact hown
      ·rw[Ca e2] at hc';exact(Fy hc').elim
   ·rw[other_b2 hk hk1];refine⟨⟨⟨_,true,?_,Ph.dataO (d:={ Cr d d.asks with waits:=0,told:=true }) 10 a rfl rfl (fun c h1 h2 hne=>?_) (.inl ?_) (.inr ⟨rfl,by show d.kind=2;omega⟩),tok { Cr d d.asks with waits:=0,told:=true } rfl rfl rfl [Af m 10 d.asks (Ah (setLn bs m.line m.bs) m.line)] (nok 10 d.asks _ (by decide))⟩,fun c hc=>(Fy hc).elim,hask.2,fun _=>hask⟩,one 10 d.asks _ (by decide) hask,hq⟩
    ·rw[List.nil_append,List.flatMap_cons,E6 _ _ _ _ (by decide),if_pos (by decide),hm];rw[hm] at hmem;rw[hmem];exact List.Perm.refl _
    ·by_cases e:c=d.o
     ·subst e;rcases i with i|⟨_,_,i⟩
      ·exact i
      ·exact absurd i hk1
     ·exact g c h1 h2 e
    ·exact g d.asks hask.1 hask.2 (Ne.symm f)
  | drops C a b c e f g i j k l=>
   have hmem:=hp.subset (List.mem_cons_self ..);obtain⟨x,_,hx⟩:=List.mem_map.1 hmem;have:=congrArg (fun z=>z.1) hx;by_cases hx2:x.2=true<;>simp[hx2] at this
  | dataO k a b c e f g=>
   have:=(Ai hp).1;simp only[Prod.mk.injEq] at this;omega
  | dataS a=>
   have:=(Ai hp).1;simp only[Prod.mk.injEq] at this;omega
  | doneO a=>
   have:=(Ai hp).1;simp only[Prod.mk.injEq] at this;omega
  | doneS a=>
   have:=(Ai hp).1;simp only[Prod.mk.injEq] at this;omega
 ·rw[Fh hk (by decide) (if_neg (by decide)) (if_neg (by decide))] at hp;cases hph with
  | idleO a=>exact absurd hp.length_eq (by simp)
  | idleS a=>exact absurd hp.length_eq (by simp)
  | fwd a b c e f g i=>
   have:=(Ai hp).1;simp only[Prod.mk.injEq] at this;have hkd:=hi.ok.kind a;omega
  | back a=>
   have:=(Ai hp).1;simp only[Prod.mk.injEq] at this;omega
  | drops C a b c e f g i j k l=>
   have hin:(m.src,true)∈C:=by
    obtain⟨x,hx,hx'⟩:=List.mem_map.1 (hp.subset (List.mem_cons_self ..));obtain⟨x1,x2⟩:=x;cases x2
    ·simp at hx'
    ·simp at hx';rw[←hx'];exact hx
   have hnd:=GX g;have hlen:(C.erase (m.src,true)).length=C.length-1:=List.length_erase_of_mem hin;have hpos:0<C.length:=List.length_pos_of_mem hin
   have hR:R.Perm ((C.erase (m.src,true)).map fun x=>(if x.2 then 12 else 6,x.1,AE)):=by
    have h1:C.Perm ((m.src,true)::C.erase (m.src,true)):=List.perm_cons_erase hin;have h2:=h1.map fun x:Int × Bool=>((if x.2 then 12 else 6:Int),x.1,AE)
    exact(hp.trans h2).cons_inv
   have hs0:(v m.src).s=0:=(k _ hin).2.2 rfl;have hask:=h.ask a;obtain⟨hmem,hSh⟩:=f;by_cases hw:d.waits=1
   ·rw[other_a1 hk hw];have hC:C.erase (m.src,true)=[]:=List.eq_nil_of_length_eq_zero (by omega)
    have hall:∀x∈C,x=(m.src,true):=fun x hx=>by
     by_cases ex:x=(m.src,true)
     ·exact ex
     ·have:=(List.Nodup.mem_erase_iff hnd).2 ⟨ex,hx⟩;rw[hC] at this;cases this
    rw[hC] at hR;obtain rfl:=List.Perm.eq_nil hR;refine⟨⟨⟨_,true,?_,Ph.dataO (d:={ Cr d d.asks with waits:=0,told:=true }) 10 a rfl rfl (fun c h1 h2 hne=>?_) ((hSh d.asks hask.1 hask.2).imp id fun h=>⟨h.1,h.2.1⟩) (.inr ⟨rfl,e⟩),tok { Cr d d.asks with waits:=0,told:=true } rfl rfl rfl [Af m 10 d.asks (Ah bs m.line)] (nok 10 d.asks _ (by decide))⟩,fun c hc=>(Fy hc).elim,hask.2,fun _=>hask⟩,one 10 d.asks _ (by decide) hask,hq⟩
    ·rw[List.nil_append,List.flatMap_cons,E6 _ _ _ _ (by decide),if_pos (by decide),hm,hmem];exact List.Perm.refl _
    ·rcases hSh c h1 h2 with h|⟨_,_,h⟩
     ·exact h
     ·rcases l c h with h|h
      ·exact absurd h hne
      ·obtain⟨x,hx,rfl⟩:=List.mem_map.1 h;rw[hall x hx];exact hs0
   ·rw[other_a2 hk hw];refine⟨⟨⟨_,true,?_,Ph.drops (d:={ d with sh:=d.sh.set m.src false,waits:=d.waits-1 }) (C.erase (m.src,true)) a b c e ⟨hmem,fun c' h1 h2=>?_⟩ ?_ ?_ ?_ (fun x hx=>?_) (fun c' hc=>?_),fun c' h1 h2=>?_⟩,fun c' hc=>?_,h.own,fun _=>hask⟩,(fun y hy=>by cases hy),hq⟩
    ·show(R++[].flatMap er).Perm _;rw[List.flatMap_nil,List.append_nil];exact hR
    ·refine(hSh c' h1 h2).imp id fun⟨j1,j2,j3⟩=>⟨j1,j2,?_⟩
     show(d.sh.set m.src false).get c'=true;rw[Ca fun e=>by rw[e] at j1;omega];exact j3
    ·exact List.Nodup.sublist (List.Sublist.map _ (List.erase_sublist)) g
    ·show _=d.waits-1;omega
    ·show 1≤d.waits-1;omega
    ·obtain⟨hne,hx'⟩:=(List.Nodup.mem_erase_iff hnd).1 hx;obtain⟨k1,k2,k3⟩:=k x hx';refine⟨?_,k2,k3⟩;show(d.sh.set m.src false).get x.1=true;rw[Ca fun e=>hne (KJ g hx' hin e)];exact k1
    ·have hc':(d.sh.set m.src false).get c'=true:=hc;have hcm:c'≠m.src:=fun e=>by subst e;have hk1:=k _ hin;have:=Cn hk1.1;rw[EM this] at hc';cases hc'
     rw[Ca hcm] at hc';refine(l c' hc').imp id fun h=>?_;obtain⟨x,hx,rfl⟩:=List.mem_map.1 h;exact List.mem_map.2 ⟨x,(List.Nodup.mem_erase_iff hnd).2 ⟨fun e=>hcm (by rw[e]),hx⟩,rfl⟩
    ·exact tok { d with sh:=d.sh.set m.src false,waits:=d.waits-1 } rfl rfl rfl [] (fun c=>by rw[List.flatMap_nil,List.append_nil]) c' h1 h2
    ·have hc':(d.sh.set m.src false).get c'=true:=hc;by_cases e:c'=m.src
     ·subst e;exact h.shr _ (k _ hin).1
     ·rw[Ca e] at hc';exact h.shr _ hc'
  | dataO k a b c e f g=>
   have:=(Ai hp).1;simp only[Prod.mk.injEq] at this;omega
  | dataS a=>
   have:=(Ai hp).1;simp only[Prod.mk.injEq] at this;omega
  | doneO a=>
   have:=(Ai hp).1;simp only[Prod.mk.injEq] at this;omega
  | doneS a=>
   have:=(Ai hp).1;simp only[Prod.mk.injEq] at this;omega
 ·rw[Fh hk (by decide) (if_neg (by decide)) (if_neg (by decide))] at hp
  have fin:∀(hR:R=[]),sv=false→Ph M { d with busy:=false,asks:=0,kind:=0,waits:=0,told:=false } (Ah bs n) cur v (fun c=>PW c++d.q.flatMap (pt c)) [] false→EI n { d with busy:=false,asks:=0,kind:=0,waits:=0,told:=false }→LI M (drainF d.q bs { d with busy:=false,asks:=0,kind:=0,waits:=0,told:=false }).1 (Ah (drainF d.q bs { d with busy:=false,asks:=0,kind:=0,waits:=0,told:=false }).2.1 n) cur v (R++(drainF d.q bs { d with busy:=false,asks:=0,kind:=0,waits:=0,told:=false }).2.2.flatMap er) (fun c=>GW c++(drainF d.q bs { d with busy:=false,asks:=0,kind:=0,waits:=0,told:=false }).1.q.flatMap (gt c)) (fun c=>PW c++(drainF d.q bs { d with busy:=false,asks:=0,kind:=0,waits:=0,told:=false }).1.q.flatMap (pt c)) (fun c=>A c++(drainF d.q bs { d with busy:=false,asks:=0,kind:=0,waits:=0,told:=false }).2.2.flatMap (kt c))∧(∀y∈(drainF d.q bs { d with busy:=false,asks:=0,kind:=0,waits:=0,told:=false }).2.2,y.line=n∧(4≤y.kind∧y.kind≤10)∧(0≤y.dst∧y.dst<M))∧∀z∈(drainF d.q bs { d with busy:=false,asks:=0,kind:=0,waits:=0,told:=false }).1.q,z.src<M:=by
   intro hR hsv hPh hEI;subst hR hsv;have hL:LI M { d with busy:=false,asks:=0,kind:=0,waits:=0,told:=false } (Ah bs n) cur v [] (fun c=>GW c++d.q.flatMap (gt c)) (fun c=>PW c++d.q.flatMap (pt c)) A:=⟨⟨[],false,List.Perm.refl _,hPh,fun c h1 h2=>(ht c h1 h2).move (by unfold Eg;rw[if_neg (by simp),if_neg (by simp)])⟩,h.shr,h.own,fun h=>by cases h⟩
   exact MH hM h0 d.q bs _ [] A hL hEI (fun m hm=>⟨hi.ok.rest m hm,hq m hm⟩) hn
  have hEI:EI n { d with busy:=false,asks:=0,kind:=0,waits:=0,told:=false }:=⟨⟨by show(0:Int)≤0∧(0:Int)<4;decide,fun _=>rfl,hi.ok.own,hi.ok.q,pW0,fun h=>(by cases h)⟩,hi.apart,fun _=>⟨rfl,rfl⟩⟩
  rw[other_d hk];cases hph with
  | idleO a=>exact absurd hp.length_eq (by simp)
  | idleS a=>exact absurd hp.length_eq (by simp)
  | fwd a b c e f g i=>
   have:=(Ai hp).1;simp only[Prod.mk.injEq] at this;have hkd:=hi.ok.kind a;omega
  | back a=>
   have:=(Ai hp).1;simp only[Prod.mk.injEq] at this;omega
  | drops C a b c e f g i j k l=>
   have hmem:=hp.subset (List.mem_cons_self ..);obtain⟨x,_,hx⟩:=List.mem_map.1 hmem;have:=congrArg (fun z=>z.1) hx;by_cases hx2:x.2=true<;>simp[hx2] at this
  | dataO k a b c e f g=>
   have:=(Ai hp).1;simp only[Prod.mk.injEq] at this;omega
  | dataS a=>
   have:=(Ai hp).1;simp only[Prod.mk.injEq] at this;omega
  | doneO a b c e f=>
   have hask:=h.ask a;have hR:R=[]:=(Ai hp).2;exact fin hR rfl (Ph.idleO (d:={ d with busy:=false,asks:=0,kind:=0,waits:=0,told:=false }) rfl (by show 0≤d.o;rw[c];exact hask.1) (by show Es (v d.o) (PW d.o++d.q.flatMap (pt d.o)) cur;rw[c];exact e) (by show Cx M v d.o;rw[c];exact f)) hEI
  | doneS a b c e=>
   have hR:R=[]:=(Ai hp).2;exact fin hR rfl (Ph.idleS (d:={ d with busy:=false,asks:=0,kind:=0,waits:=0,told:=false }) rfl c e) hEI
end
def updC (v:Int→CV) (c:Int) (x:CV):Int→CV:=fun z=>if z=c then x else v z
theorem AF (v:Int→CV) (c:Int) (x:CV):updC v c x c=x:=if_pos rfl
theorem Bn {v:Int→CV} {c z:Int} {x:CV} (h:z≠c):updC v c x z=v z:=if_neg h
def Nn {α:Type} (F:Int→List α) (c:Int) (l:List α):Int→List α:=fun z=>if z=c then l else F z
theorem FO {α:Type} (F:Int→List α) (c:Int) (l:List α):Nn F c l c=l:=if_pos rfl
theorem LG {α:Type} {F:Int→List α} {c z:Int} {l:List α} (h:z≠c):Nn F c l z=F z:=if_neg h
section
variable {M:Int} {d:Ent} {mem cur:B16} {v:Int→CV} {R:List ER} {G:Int→List Bool} {P:Int→List B16} {A:Int→List Unit} {m:Msg} {c:Int} {x:CV}
theorem Cx.updC (h:Cx M v c):Cx M (updC v c x) c:=fun z h1 h2 h3=>by rw[Bn h3];exact h z h1 h2 h3
theorem Cx.upd0 {o:Int} (h:Cx M v o) (hx:x.s=0):Cx M (Go.Proofs.YtpfijldkkfiooaaGreatDoor.Ch.updC v c x) o:=fun z h1 h2 h3=>by
 by_cases e:z=c
 ·subst e;rw[AF];exact hx
 ·rw[Bn e];exact h z h1 h2 h3
theorem Cx.keep {o:Int} (h:Cx M v o) (hx:x.s=(v c).s):Cx M (Go.Proofs.YtpfijldkkfiooaaGreatDoor.Ch.updC v c x) o:=fun z h1 h2 h3=>by
 by_cases e:z=c
 ·subst e;rw[AF,hx];exact h z h1 h2 h3
 ·rw[Bn e];exact h z h1 h2 h3
theorem CA.upd0 {sh:Sh} (h:CA M sh mem cur v) (hx:x.s=0):CA M sh mem cur (Go.Proofs.YtpfijldkkfiooaaGreatDoor.Ch.updC v c x):=⟨h.1,fun z h1 h2=>by
 by_cases e:z=c
 ·subst e;rw[AF];exact .inl hx
 ·rw[Bn e];exact h.2 z h1 h2⟩
theorem CA.keep {sh:Sh} (h:CA M sh mem cur v) (hx:x.s=(v c).s) (hb:x.b=(v c).b):CA M sh mem cur (Go.Proofs.YtpfijldkkfiooaaGreatDoor.Ch.updC v c x):=⟨h.1,fun z h1 h2=>by
 by_cases e:z=c
 ·subst e;rw[AF,hx,hb];exact h.2 z h1 h2
 ·rw[Bn e];exact h.2 z h1 h2⟩
theorem CA.low {sh:Sh} (h:CA M sh mem cur v) (h0:0≤c) (h1:c<M):(v c).s=0∨(v c).s=1:=(h.2 c h0 h1).imp id fun h=>h.1
theorem MN {k z:Int} {b:B16} {R R':List ER} (h:((k,z,b)::R).Perm R'):(k,z,b)∈R':=h.subset (List.mem_cons_self ..)
theorem Pp (h:LI M d mem cur v (er m++R) G P A) (hk:m.kind=8∨m.kind=9∨m.kind=10) (hi:d.busy=true→d.kind=1∨d.kind=2) (hc:m.dst=c) (s:Int) (hs:s=if m.kind=8 then 1 else 2) :
  (0≤c∧c<M)∧(v c).a=some (decide (m.kind=10))∧(v c).g=none∧m.bs=cur∧LI M d mem cur (updC v c ⟨s,m.bs,(v c).g,none⟩) ((13,c,AE)::R) G P A:=by
 obtain⟨R',sv,hp,hph,ht⟩:=h.ph;rw[Fh (k:=m.kind) rfl (by omega) (if_pos (by omega)) (if_pos (by omega)),hc] at hp;have no:∀{k z:Int} {b:B16},([(m.kind,c,m.bs)]++R).Perm [(k,z,b)]→m.kind=k∧c=z∧m.bs=b∧R=[]:=fun h=>by obtain⟨a,b⟩:=Ai h;simp only[Prod.mk.injEq] at a;exact⟨a.1,a.2.1,a.2.2,b⟩
 -- who asks is served
 have srv:sv=true→d.busy=true→c=d.asks→((m.kind=10)↔d.kind=2)→(0≤c∧c<M)∧(v c).a=some (decide (m.kind=10))∧(v c).g=none∧∀z,0≤z→z<M→Tok d false z (updC v c ⟨s,m.bs,(v c).g,none⟩ z) (G z) (P z) (A z):=by
  intro h1 h2 h3 h4;have hask:=h.ask h2;rw[←h3] at hask;have t:=ht c hask.1 hask.2;have ha:=t.ask;unfold Eg at ha;rw[if_pos ⟨h1,h3.symm⟩] at ha
  have hG:G c=[]∧(v c).a=some (decide (d.kind=2)):=by
   cases hA:(v c).a with
   | none=>rw[hA] at ha;simp at ha
   | some y=>
    rw[hA] at ha;have hl:=congrArg List.length ha;simp only[List.length_append,List.length_cons,List.length_nil,Option.toList_some] at hl;have hg:G c=[]:=List.eq_nil_of_length_eq_zero (by omega);rw[hg] at ha;simp at ha;exact⟨hg,by rw[←ha]⟩
  have hg:(v c).g=none:=by
   cases hg:(v c).g with
   | none=>rfl
   | some b=>have:=(t.giv (by rw[hg];simp)).2;rw[hG.2] at this;cases this
  refine⟨hask,?_,hg,fun z hz1 hz2=>?_⟩
  ·rw[hG.2];congr 1;exact decide_eq_decide.2 h4.symm
  ·by_cases e:z=c
   ·subst e;rw[AF];refine⟨?_,t.put,fun hg'=>absurd hg hg',fun w hw=>(by cases hw),?_⟩
    ·rw[hG.1];unfold Eg;rw[if_neg (by simp)];rfl
    ·show s=0∨s=1∨s=2∨s=3;rw[hs];split<;>omega
   ·rw[Bn e];refine(ht z hz1 hz2).move ?_;unfold Eg;rw[if_neg (by simp),if_neg (by rw[←h3];exact fun h=>e h.2.symm)]
 cases hph with
 | idleO a=>exact absurd hp.length_eq (by simp)
 | idleS a=>exact absurd hp.length_eq (by simp)
 | fwd a=>have:=(no hp).1;have:=hi a;omega
 | back a=>have:=(no hp).1;omega
 | drops C=>
  obtain⟨x,_,hx⟩:=List.mem_map.1 (MN hp);have:=congrArg (fun z=>z.1) hx;by_cases hx2:x.2=true<;>simp[hx2] at this<;>omega
 | doneO a=>have:=(no hp).1;omega
 | doneS a=>have:=(no hp).1;omega
 | dataO k a b e f g i=>
  obtain⟨h1,h2,h3,rfl⟩:=no hp;have hid:=hi a;obtain⟨s1,s2,s3,s4⟩:=srv rfl a h2 (by omega);refine⟨s1,s2,s3,h3,⟨_,false,List.Perm.refl _,?_,s4⟩,h.shr,h.own,h.ask⟩;rw[h2];refine Ph.doneO a b e (.inl ?_) ?_
  ·rw[AF];refine⟨?_,h3,by show(v d.asks).g=none;rw[←h2];exact s3⟩;show wr s;rw[hs,if_neg (by omega)];exact .inl rfl
  ·exact Cx.updC f
 | dataS a b e f g i=>
  obtain⟨h1,h2,h3,rfl⟩:=no hp;obtain⟨s1,s2,s3,s4⟩:=srv rfl a h2 (by omega);refine⟨s1,s2,s3,h3,⟨_,false,List.Perm.refl _,?_,s4⟩,h.shr,h.own,h.ask⟩;rw[h2];refine Ph.doneS a b e ⟨g.1,fun z z1 z2=>?_⟩;by_cases e':z=d.asks
  ·subst e';rw[AF];exact .inr ⟨by show s=1;rw[hs,if_pos h1],h3,i⟩
  ·rw[Bn e'];exact g.2 z z1 z2
theorem NA (h:LI M d mem cur v (er m++R) G P A) (hk:m.kind=4∨m.kind=5) (hi:d.busy=true→d.kind=1∨d.kind=2) (hc:m.dst=c) (b9:B16) :
  (0≤c∧c<M)∧(((v c).g=some cur∧LI M d mem cur v ((11,c,cur)::R) G P A)∨((v c).g=none∧wr (v c).s∧(v c).b=cur∧LI M d mem cur (updC v c ⟨if m.kind=4 then 1 else 0,if m.kind=4 then cur else b9,(v c).g,(v c).a⟩) ((11,c,cur)::R) G P A)):=by
 obtain⟨R',sv,hp,hph,ht⟩:=h.ph;rw[Fh (k:=m.kind) rfl (by omega) (if_pos (by omega)) (if_neg (by omega)),hc] at hp;have no:∀{k z:Int} {b:B16},([(m.kind,c,AE)]++R).Perm [(k,z,b)]→m.kind=k∧c=z∧R=[]:=fun h=>by obtain⟨a,b⟩:=Ai h;simp only[Prod.mk.injEq] at a;exact⟨a.1,a.2.1,b⟩
 cases hph with
 | idleO a=>exact absurd hp.length_eq (by simp)
 | idleS a=>exact absurd hp.length_eq (by simp)
 | back a=>have:=(no hp).1;omega
 | drops C=>
  obtain⟨x,_,hx⟩:=List.mem_map.1 (MN hp);have:=congrArg (fun z=>z.1) hx;by_cases hx2:x.2=true<;>simp[hx2] at this<;>omega
 | doneO a=>have:=(no hp).1;omega
 | doneS a=>have:=(no hp).1;omega
 | dataO k a b e f g i=>have:=(no hp).1;omega
 | dataS a=>have:=(no hp).1;omega
 | fwd a b e f g i j=>
  obtain⟨h1,h2,rfl⟩:=no hp;have hrng:0≤c∧c<M:=⟨by rw[h2];exact e,by rw[h2];exact h.own⟩
  refine⟨hrng,?_⟩;rcases i with⟨i1,i2,i3⟩|⟨i1,i2,i3⟩
  ·rw[←h2] at i1 i2 i3;refine .inr ⟨i3,i1,i2,⟨_,true,List.Perm.refl _,?_,fun z z1 z2=>?_⟩,h.shr,h.own,h.ask⟩
   ·rw[h2];refine Ph.back a b e f g (Cx.updC j) ?_;rw[AF];by_cases h4:m.kind=4
    ·exact .inr ⟨if_pos h4,if_pos h4,by omega⟩
    ·exact .inl (if_neg h4)
   ·by_cases ez:z=c
    ·subst ez;rw[AF];have t:=ht z z1 z2;have hw:=wr_ne i1;refine⟨t.ask,t.put,fun hg=>absurd i3 hg,fun w hw'=>(t.st w hw').elim (fun h=>absurd h hw.1) (fun h=>absurd h.1 hw.2),?_⟩
     ·show(if m.kind=4 then(1:Int) else 0)=0∨(if m.kind=4 then(1:Int) else 0)=1∨(if m.kind=4 then(1:Int) else 0)=2∨(if m.kind=4 then(1:Int) else 0)=3;split<;>omega
    ·rw[Bn ez];exact ht z z1 z2
  ·rw[←h2] at i1 i2 i3;refine .inl ⟨i2,⟨_,true,List.Perm.refl _,?_,ht⟩,h.shr,h.own,h.ask⟩;rw[h2];exact Ph.back a b e f g j (.inl (by rw[←h2];exact i1))
theorem Pt (h:LI M d mem cur v (er m++R) G P A) (hk:m.kind=6) (hi:d.busy=true→d.kind=1∨d.kind=2) (hc:m.dst=c) (b9:B16) :
  (0≤c∧c<M)∧¬wr (v c).s∧LI M d mem cur (updC v c ⟨0,b9,(v c).g,(v c).a⟩) ((12,c,AE)::R) G P A:=by
 obtain⟨R',sv,hp,hph,ht⟩:=h.ph;rw[Fh hk (by omega) (if_pos (by omega)) (if_neg (by omega)),hc] at hp;have no:∀{k z:Int} {b:B16},([((6:Int),c,AE)]++R).Perm [(k,z,b)]→6=k:=fun h=>by have:=(Ai h).1;simp only[Prod.mk.injEq] at this;exact this.1
 cases hph with
 | idleO a=>exact absurd hp.length_eq (by simp)
 | idleS a=>exact absurd hp.length_eq (by simp)
 | fwd a=>have:=no hp;have:=hi a;omega
 | back a=>have:=no hp;omega
 | doneO a=>have:=no hp;omega
 | doneS a=>have:=no hp;omega
 | dataO k a b e f g i=>have:=no hp;omega
 | dataS a=>have:=no hp;omega
 | drops C a b e f g i j k l o=>
  have hin:(c,false)∈C:=by
   obtain⟨x,hx,hx'⟩:=List.mem_map.1 (MN hp);obtain⟨x1,x2⟩:=x;cases x2
   ·simp at hx';rw[←hx'];exact hx
   ·simp at hx'
  have hnd:=GX i;have hrng:0≤c∧c<M:=⟨(Cn (l _ hin).1).1,h.shr _ (l _ hin).1⟩
  have hlow:=g.low hrng.1 hrng.2;have hpc:C.Perm ((c,false)::C.erase (c,false)):=List.perm_cons_erase hin
  have hR:R.Perm ((C.erase (c,false)).map fun x=>(if x.2 then 12 else 6,x.1,AE)):=by
   have h2:=hpc.map fun x:Int × Bool=>((if x.2 then 12 else 6:Int),x.1,AE)
   exact(hp.trans h2).cons_inv
  have hfst:(C.map Prod.fst).Perm (((c,true)::C.erase (c,false)).map Prod.fst):=hpc.map Prod.fst;have hlen:=hfst.length_eq;rw[List.length_map,List.length_map] at hlen;refine⟨hrng,fun hw=>by have:=wr_ne hw;omega,⟨_,true,?_,Ph.drops ((c,true)::C.erase (c,false)) a b e f (g.upd0 rfl) (hfst.nodup_iff.1 i) (by rw[←hlen];exact j) k (fun x hx=>?_) (fun z hz=>(o z hz).imp id fun h=>hfst.subset h),fun z z1 z2=>?_⟩,h.shr,h.own,h.ask⟩
  ·rw[List.map_cons];exact List.Perm.cons _ hR
  ·rcases List.mem_cons.1 hx with rfl|hx
   ·obtain⟨l1,l2,_⟩:=l _ hin;exact⟨l1,l2,fun _=>by rw[AF]⟩
   ·obtain⟨hne,hx'⟩:=(List.Nodup.mem_erase_iff hnd).1 hx;obtain⟨l1,l2,l3⟩:=l x hx';have:x.1≠c:=fun e=>hne (KJ i hx' hin e);exact⟨l1,l2,fun h=>by rw[Bn this];exact l3 h⟩
  ·by_cases ez:z=c
   ·subst ez;rw[AF];have t:=ht z z1 z2;exact⟨t.ask,t.put,fun hg=>⟨rfl,(t.giv hg).2⟩,fun w hw => .inl rfl,.inl rfl⟩
   ·rw[Bn ez];exact ht z z1 z2
end
section
variable {M:Int} {d:Ent} {mem cur:B16} {v:Int→CV} {R:List ER} {G:Int→List Bool} {P:Int→List B16} {A:Int→List Unit} {m:Msg} {c:Int} {x:CV}
theorem Es.updC {o:Int} {p:List B16} (h:Es (v o) p cur) (ho:o≠c):Es (Go.Proofs.YtpfijldkkfiooaaGreatDoor.Ch.updC v c x o) p cur:=by rw[Bn ho];exact h
theorem Mm (h:LI M d mem cur v R G P A) (h0:0≤c∧c<M) {l:List Unit} (hA:A c=()::l) :
  (v c).g≠none∧LI M d mem cur (updC v c ⟨(v c).s,(v c).b,none,(v c).a⟩) R G P (Nn A c l):=by
 obtain⟨R',sv,hp,hph,ht⟩:=h.ph;have t:=ht c h0.1 h0.2
 obtain⟨b,hg,hP,hl⟩:∃b,(v c).g=some b∧P c=[]∧l=[]:=by
  rcases t.put with⟨_,_,a⟩|⟨b,a,⟨_,e⟩|⟨e,f⟩⟩
  ·rw[hA] at a;cases a
  ·rw[hA] at e;cases e
  ·rw[hA] at f;simp at f;exact⟨b,a,e,f⟩
 have hs:=t.giv (by rw[hg];simp)
 have hold:∀o,Es (v o) (P o) cur→Es (updC v c ⟨(v c).s,(v c).b,none,(v c).a⟩ o) (P o) cur:=fun o ho=>by
  by_cases e:o=c
  ·subst e;rcases ho with⟨hw,_⟩|⟨_,_,e⟩
   ·have:=wr_ne hw;omega
   ·rw[hP] at e;cases e
  ·exact ho.updC e
 refine⟨by rw[hg];simp,⟨R',sv,hp,?_,fun z z1 z2=>?_⟩,h.shr,h.own,h.ask⟩
 ·cases hph with
  | idleO a b e f=>exact .idleO a b (hold _ e) (f.keep rfl)
  | idleS a b e=>exact .idleS a b (e.keep rfl rfl)
  | fwd a b e f g i j=>exact .fwd a b e f g (hold _ i) (j.keep rfl)
  | back a b e f g i j=>
   refine .back a b e f g (i.keep rfl) ?_;by_cases ec:d.o=c
   ·rw[ec,AF,←ec];exact j
   ·rw[Bn ec];exact j
  | drops C a b e f g i j k l o=>
   refine .drops C a b e f (g.keep rfl rfl) i j k (fun x hx=>?_) o;obtain⟨l1,l2,l3⟩:=l x hx;refine⟨l1,l2,fun hx2=>?_⟩;by_cases ec:x.1=c
   ·rw[ec,AF];show(v c).s=0;rw[←ec];exact l3 hx2
   ·rw[Bn ec];exact l3 hx2
  | dataO k a b e f g i=>
   refine .dataO k a b e (f.keep rfl) ?_ i;by_cases ec:d.asks=c
   ·rw[ec,AF,←ec];exact g
   ·rw[Bn ec];exact g
  | dataS a b e f g i=>exact .dataS a b e f (g.keep rfl rfl) i
  | doneO a b e f g=>exact .doneO a b e (hold _ f) (g.keep rfl)
  | doneS a b e f=>exact .doneS a b e (f.keep rfl rfl)
 ·by_cases ez:z=c
  ·subst ez;rw[AF,FO,hl];exact⟨t.ask,.inl ⟨rfl,hP,rfl⟩,fun h=>absurd rfl h,t.st,t.rng⟩
  ·rw[Bn ez,LG ez];exact ht z z1 z2
theorem WV (h:LI M d mem cur v R G P A) (h0:0≤c∧c<M) {w:Bool} (ha:(v c).a=none) (hg:(v c).g=none) (hs:(v c).s=0∨((v c).s=1∧w=true)) :
  LI M d mem cur (updC v c ⟨(v c).s,(v c).b,(v c).g,some w⟩) R (Nn G c (G c++[w])) P A:=by
 obtain⟨R',sv,hp,hph,ht⟩:=h.ph;have t:=ht c h0.1 h0.2;have hGW:G c=[]∧Eg d sv c=[]:=by have:=t.ask;rw[ha] at this;exact List.append_eq_nil_iff.1 this
 have hold:∀o,Es (v o) (P o) cur→Es (updC v c ⟨(v c).s,(v c).b,(v c).g,some w⟩ o) (P o) cur:=fun o ho=>by
  by_cases e:o=c
  ·subst e;rw[AF];exact ho
  ·exact ho.updC e
 refine⟨⟨R',sv,hp,?_,fun z z1 z2=>?_⟩,h.shr,h.own,h.ask⟩
 ·cases hph with
  | idleO a b e f=>exact .idleO a b (hold _ e) (f.keep rfl)
  | idleS a b e=>exact .idleS a b (e.keep rfl rfl)
  | fwd a b e f g i j=>exact .fwd a b e f g (hold _ i) (j.keep rfl)
  | back a b e f g i j=>
   refine .back a b e f g (i.keep rfl) ?_;by_cases ec:d.o=c
   ·rw[ec,AF,←ec];exact j
   ·rw[Bn ec];exact j
  | drops C a b e f g i j k l o=>
   refine .drops C a b e f (g.keep rfl rfl) i j k (fun x hx=>?_) o;obtain⟨l1,l2,l3⟩:=l x hx;refine⟨l1,l2,fun hx2=>?_⟩;by_cases ec:x.1=c
   ·rw[ec,AF];show(v c).s=0;rw[←ec];exact l3 hx2
   ·rw[Bn ec];exact l3 hx2
  | dataO k a b e f g i=>
   refine .dataO k a b e (f.keep rfl) ?_ i;by_cases ec:d.asks=c
   ·rw[ec,AF,←ec];exact g
   ·rw[Bn ec];exact g
  | dataS a b e f g i=>exact .dataS a b e f (g.keep rfl rfl) i
  | doneO a b e f g=>exact .doneO a b e (hold _ f) (g.keep rfl)
  | doneS a b e f=>exact .doneS a b e (f.keep rfl rfl)
 ·by_cases ez:z=c
  ·subst ez;rw[AF,FO,hGW.1];refine⟨?_,t.put,fun h=>absurd hg h,fun w' hw=>?_,t.rng⟩
   ·rw[hGW.2];rfl
   ·simp at hw;subst hw;exact hs
  ·rw[Bn ez,LG ez];exact ht z z1 z2
theorem VE (h:LI M d mem cur v R G P A) (h0:0≤c∧c<M) (hs:(v c).s=1) (b9:B16) :
  LI M d mem cur (updC v c ⟨0,b9,(v c).g,(v c).a⟩) R G P A:=by
 obtain⟨R',sv,hp,hph,ht⟩:=h.ph
 have hold:∀o,Es (v o) (P o) cur→Es (updC v c ⟨0,b9,(v c).g,(v c).a⟩ o) (P o) cur:=fun o ho=>by
  by_cases e:o=c
  ·subst e;rcases ho with⟨hw,_⟩|⟨e,_⟩
   ·have:=wr_ne hw;omega
   ·omega
  ·exact ho.updC e
 refine⟨⟨R',sv,hp,?_,fun z z1 z2=>?_⟩,h.shr,h.own,h.ask⟩
 ·cases hph with
  | idleO a b e f=>exact .idleO a b (hold _ e) (f.upd0 rfl)
  | idleS a b e=>exact .idleS a b (e.upd0 rfl)
  | fwd a b e f g i j=>exact .fwd a b e f g (hold _ i) (j.upd0 rfl)
  | back a b e f g i j=>
   refine .back a b e f g (i.upd0 rfl) ?_;by_cases ec:d.o=c
   ·rw[ec,AF];exact .inl rfl
   ·rw[Bn ec];exact j
  | drops C a b e f g i j k l o=>
   refine .drops C a b e f (g.upd0 rfl) i j k (fun x hx=>?_) o;obtain⟨l1,l2,l3⟩:=l x hx;refine⟨l1,l2,fun hx2=>?_⟩;by_cases ec:x.1=c
   ·rw[ec,AF]
   ·rw[Bn ec];exact l3 hx2
  | dataO k a b e f g i=>
   refine .dataO k a b e (f.upd0 rfl) ?_ i;by_cases ec:d.asks=c
   ·rw[ec,AF];exact .inl rfl
   ·rw[Bn ec];exact g
  | dataS a b e f g i=>exact .dataS a b e f (g.upd0 rfl) i
  | doneO a b e f g=>exact .doneO a b e (hold _ f) (g.upd0 rfl)
  | doneS a b e f=>exact .doneS a b e (f.upd0 rfl)
 ·by_cases ez:z=c
  ·subst ez;rw[AF];have t:=ht z z1 z2;exact⟨t.ask,t.put,fun hg=>⟨rfl,(t.giv hg).2⟩,fun w hw => .inl rfl,.inl rfl⟩
  ·rw[Bn ez];exact ht z z1 z2
theorem Ow (h:LI M d mem cur v R G P A) (h0:0≤c∧c<M) (hw:wr (v c).s):(v c).b=cur∧(v c).g=none∧(v c).a=none∧Cx M v c∧P c=[]:=by
 obtain⟨R',sv,hp,hph,ht⟩:=h.ph;have t:=ht c h0.1 h0.2;have hn:=wr_ne hw
 have hg:(v c).g=none:=by
  cases hg:(v c).g with
  | none=>rfl
  | some b=>have:=(t.giv (by rw[hg];simp)).1;omega
 have ha:(v c).a=none:=by
  cases ha:(v c).a with
  | none=>rfl
  | some w=>exact(t.st w ha).elim (fun h=>absurd h hn.1) (fun h=>absurd h.1 hn.2)
 have hP:P c=[]:=by
  rcases t.put with⟨_,a,_⟩|⟨b,a,_⟩
  ·exact a
  ·rw[hg] at a;cases a
 have fin:∀o,Es (v o) (P o) cur→Cx M v o→(v c).b=cur∧(v c).g=none∧(v c).a=none∧Cx M v c∧P c=[]:=fun o ho hA=>by
  by_cases e:c=o
  ·subst e;rcases ho with⟨_,hb,_⟩|⟨e,_⟩
   ·exact⟨hb,hg,ha,hA,hP⟩
   ·omega
  ·have:=hA c h0.1 h0.2 e;omega
 have sh:∀{s:Sh},CA M s mem cur v→False:=fun h=>by have:=h.low h0.1 h0.2;omega
 cases hph with
 | idleO a b e f=>exact fin _ e f
 | idleS a b e=>exact(sh e).elim
 | fwd a b e f g i j=>exact fin _ i j
 | back a b e f g i j=>
  exfalso;by_cases ec:c=d.o
  ·subst ec;rcases j with j|⟨j,_⟩<;>omega
  ·have:=i c h0.1 h0.2 ec;omega
 | drops C a b e f g=>exact(sh g).elim
 | dataO k a b e f g i=>
  exfalso;by_cases ec:c=d.asks
  ·subst ec;rcases g with j|⟨j,_⟩<;>omega
  ·have:=f c h0.1 h0.2 ec;omega
 | dataS a b e f g i=>exact(sh g).elim
 | doneO a b e f g=>exact fin _ f g
 | doneS a b e f=>exact(sh f).elim
theorem Qf (h:LI M d mem cur v R G P A) (h0:0≤c∧c<M) (hw:wr (v c).s) {cur':B16} {P':Int→List B16} (hP:∀z,z≠c→P' z=P z) (hx:Es x (P' c) cur') (ht:∀sv,Tok d sv c (v c) (G c) (P c) (A c)→Tok d sv c x (G c) (P' c) (A c)):LI M d mem cur' (updC v c x) R G P' A:=by
 obtain⟨hb,hg,ha,hA,hPc⟩:=Ow h h0 hw;obtain⟨R',sv,hp,hph,htk⟩:=h.ph;have hn:=wr_ne hw
 have who:∀o,Es (v o) (P o) cur→Cx M v o→o=c:=fun o ho hA=>by
  by_cases e:c=o
  ·exact e.symm
  ·have:=hA c h0.1 h0.2 e;omega
 have sh:∀{s:Sh},CA M s mem cur v→False:=fun h=>by have:=h.low h0.1 h0.2;omega
 refine⟨⟨R',sv,hp,?_,fun z z1 z2=>?_⟩,h.shr,h.own,h.ask⟩
 ·cases hph with
  | idleO a b e f=>
   have e':=who _ e f;refine .idleO a b ?_ (by rw[e'];exact hA.updC);rw[e',AF];exact hx
  | idleS a b e=>exact(sh e).elim
  | fwd a b e f g i j=>
   have e':=who _ i j;refine .fwd a b e f g ?_ (by rw[e'];exact hA.updC);rw[e',AF];exact hx
  | back a b e f g i j=>
   exfalso;by_cases ec:c=d.o
   ·subst ec;rcases j with j|⟨j,_⟩<;>omega
   ·have:=i c h0.1 h0.2 ec;omega
  | drops C a b e f g=>exact(sh g).elim
  | dataO k a b e f g i=>
   exfalso;by_cases ec:c=d.asks
   ·subst ec;rcases g with j|⟨j,_⟩<;>omega
   ·have:=f c h0.1 h0.2 ec;omega
  | dataS a b e f g i=>exact(sh g).elim
  | doneO a b e f g=>
   have e':=who _ f g;refine .doneO a b e ?_ (by rw[e'];exact hA.updC);rw[e',AF];exact hx
  | doneS a b e f=>exact(sh f).elim
 ·by_cases ez:z=c
  ·subst ez;rw[AF];exact ht sv (htk z z1 z2)
  ·rw[Bn ez,hP z ez];exact htk z z1 z2
theorem write_li (h:LI M d mem cur v R G P A) (h0:0≤c∧c<M) (hw:wr (v c).s) (cur':B16) {s:Int} (hs:wr s):LI M d mem cur' (updC v c ⟨s,cur',(v c).g,(v c).a⟩) R G P A:=by
 obtain⟨hb,hg,ha,hA,hPc⟩:=Ow h h0 hw;refine Qf h h0 hw (fun z _=>rfl) (.inl ⟨hs,rfl,hg⟩) fun sv t=>⟨t.ask,t.put,fun hg'=>absurd hg hg',fun w hw'=>(by rw[show(v c).a=some w from hw'] at ha;cases ha),?_⟩
 show s=0∨s=1∨s=2∨s=3;unfold wr at hs;omega
theorem VF (h:LI M d mem cur v R G P A) (h0:0≤c∧c<M) (hw:wr (v c).s) (b9:B16):LI M d mem cur (updC v c ⟨0,b9,some (v c).b,(v c).a⟩) R G (Nn P c (P c++[(v c).b])) A:=by
 obtain⟨hb,hg,ha,hA,hPc⟩:=Ow h h0 hw;refine Qf h h0 hw (fun z hz=>LG hz) (.inr ⟨rfl,by show some (v c).b=_;rw[hb],by rw[FO,hPc,hb];rfl⟩) fun sv t=>⟨t.ask,?_,fun _=>⟨rfl,ha⟩,fun w hw' => .inl rfl,.inl rfl⟩
 refine .inr ⟨(v c).b,rfl,.inl ⟨by rw[FO,hPc];rfl,?_⟩⟩;rcases t.put with⟨_,_,a⟩|⟨b,a,_⟩
 ·exact a
 ·rw[hg] at a;cases a
end
def gvw (g:Option Ln) (n:Int):Option B16:=match g with|some x=>if x.num=n then some x.bs else none|none=>none
def avw (a:Option (Int × Bool)) (n:Int):Option Bool:=match a with|some (l,w)=>if l=n then some w else none|none=>none
def bvw (L:List Ln) (n:Int):B16:=((AI L n).getD ln0).bs
def cvw (d:CD) (n:Int):CV:=⟨stateOf d.L n,bvw d.L n,gvw d.giv n,avw d.ask n⟩
section
variable {n k:Int} {L:List Ln} {d:CD} {x:Ln} {m:Msg}
theorem Dw:stateOf (dropL L k) n=if n=k then 0 else stateOf L n:=by unfold stateOf;rw[Jq];split<;>rfl
theorem GB:bvw (dropL L k) n=if n=k then AE else bvw L n:=by unfold bvw;rw[Jq];split<;>rfl
theorem SG (A B:List Ln) (num:Int):AI (A++B) num=(AI A num).or (AI B num):=by unfold AI;rw[List.find?_append]
theorem PA {c:Nat} {ways:Int} (he:Cu c ways L x=0):AI (putL c ways L x) n=if n=x.num then some x else AI L n:=by
 unfold putL;rw[if_pos he];by_cases h:AI L x.num=none
 ·rw[if_pos h,SG];by_cases e:n=x.num
  ·subst e;rw[if_pos rfl,h];simp[AI,AW]
  ·rw[if_neg e];have:AI [x] n=none:=by simp[AI,AW];exact fun h=>e h.symm
   rw[this];simp
 ·rw[if_neg h];exact MZ h
theorem state_put {c:Nat} {ways:Int} (he:Cu c ways L x=0):stateOf (putL c ways L x) n=if n=x.num then x.state else stateOf L n:=by unfold stateOf;rw[PA he];split<;>rfl
theorem bvw_put {c:Nat} {ways:Int} (he:Cu c ways L x=0):bvw (putL c ways L x) n=if n=x.num then x.bs else bvw L n:=by unfold bvw;rw[PA he];split<;>rfl
end
theorem wrb (s:Int):Ap s=true↔wr s:=by unfold Ap wr;simp
section
variable {d:CD} {m:Msg} {n:Int}
theorem RF {a:Option (Int × Bool)} {w:Bool} (h:avw a n=some w):a=some (n,w):=by
 unfold avw at h;cases a with
 | none=>cases h
 | some y=>
  obtain⟨l,w'⟩:=y;dsimp only at h;split at h
  ·rename_i e;cases h;rw[e]
  ·cases h
theorem M3 {g:Option Ln} {b:B16} (h:gvw g n=some b):∃x,g=some x∧x.num=n∧x.bs=b:=by
 unfold gvw at h;cases g with
 | none=>cases h
 | some y=>
  dsimp only at h;split at h
  ·rename_i e;cases h;exact⟨y,rfl,e,rfl⟩
  ·cases h
theorem there_of {L:List Ln} (h:stateOf L n≠0):∃x,AI L n=some x∧(AI L n).getD ln0=x∧x.num=n:=by
 unfold stateOf at h;cases hg:AI L n with
 | none=>rw[hg] at h;exact absurd rfl h
 | some x=>exact⟨x,rfl,rfl,IC hg⟩
theorem putE_there {c:Nat} {ways:Int} {L:List Ln} {x:Ln} (hx:AI L x.num≠none) (hs:1≤x.state∧x.state≤3):Cu c ways L x=0:=by unfold Cu;rw[if_neg (by simp[okS,hs.1,hs.2]),if_neg fun h=>hx h.1]
theorem K1 (hd:DOk d) (hc:chk m=0) (hto:m.dst=d.id) (hk:m.kind=8∨m.kind=9∨m.kind=10) (ha:avw d.ask m.line=some (decide (m.kind=10))) :
  takeF d m=({ d with L:=putL d.n d.ways d.L (BH m),ask:=none },[mkM 13 d.id 4 m.line AE m.hn],0) ∧
   ∀n,cvw { d with L:=putL d.n d.ways d.L (BH m),ask:=none } n=if n=m.line then⟨if m.kind=8 then 1 else 2,m.bs,gvw d.giv n,none⟩ else cvw d n:=by
 have ha':=RF ha;have hok:dataOk d m=true:=by unfold dataOk;rw[ha'];simp
 have he:=QA (d:=d) hd.room m hok;refine⟨?_,fun n=>?_⟩
 ·unfold takeF;rw[if_neg (by simp[hc,hto]),if_pos hk,if_pos ⟨hok,he⟩]
 ·unfold cvw;dsimp only;rw[state_put he,bvw_put he];show(⟨if n=m.line then _ else _,if n=m.line then _ else _,_,_⟩:CV)=_;by_cases e:n=m.line
  ·rw[if_pos e,if_pos e,if_pos e];rfl
  ·rw[if_neg e,if_neg e,if_neg e,ha'];congr 1;unfold avw;dsimp only;rw[if_neg (Ne.symm e)]
theorem Hd (hc:chk m=0) (hto:m.dst=d.id) (hk:m.kind=4∨m.kind=5) {b:B16} (hg:gvw d.giv m.line=some b):takeF d m=(d,[mkM 11 d.id 4 m.line b m.hn],0):=by obtain⟨x,hx,hn,rfl⟩:=M3 hg;unfold takeF;rw[if_neg (by simp[hc,hto]),if_neg (by omega),if_pos hk,hx];dsimp only;rw[if_pos hn]
theorem He (hc:chk m=0) (hto:m.dst=d.id) (hk:m.kind=4∨m.kind=5) (hg:gvw d.giv m.line=none) (hw:wr (stateOf d.L m.line)) :
  ∃L',takeF d m=({ d with L:=L' },[mkM 11 d.id 4 m.line (bvw d.L m.line) m.hn],0) ∧
   ∀n,cvw { d with L:=L' } n=if n=m.line then⟨if m.kind=4 then 1 else 0,if m.kind=4 then bvw d.L m.line else AE,gvw d.giv n,avw d.ask n⟩ else cvw d n:=by
 have hb:takeF d m=takeF.backF d m:=by
  unfold takeF;rw[if_neg (by simp[hc,hto]),if_neg (by omega),if_pos hk];cases hgv:d.giv with
  | none=>rfl
  | some x=>
   dsimp only;rw[if_neg fun e=>by rw[hgv] at hg;unfold gvw at hg;dsimp only at hg;rw[if_pos e] at hg;cases hg]
 have hw':Ap (stateOf d.L m.line)=true:=(wrb _).2 hw;obtain⟨x,hx1,hx2,hx3⟩:=there_of (wr_ne hw).1;rw[hb];unfold takeF.backF;rw[if_pos hw'];refine⟨_,rfl,fun n=>?_⟩;rw[hx2];by_cases h4:m.kind=4
 ·rw[if_pos h4];have he:Cu d.n d.ways d.L { x with state:=1 }=0:=putE_there (by show AI d.L x.num≠none;rw[hx3,hx1];simp) (by show 1≤(1:Int)∧(1:Int)≤3;decide);unfold cvw;dsimp only;rw[state_put he,bvw_put he];show(⟨if n=x.num then 1 else _,if n=x.num then x.bs else _,_,_⟩:CV)=_;rw[hx3];by_cases e:n=m.line
  ·rw[if_pos e,if_pos e,if_pos e,if_pos h4,if_pos h4];congr 1;unfold bvw;rw[hx2]
  ·rw[if_neg e,if_neg e,if_neg e]
 ·rw[if_neg h4];unfold cvw;dsimp only;rw[Dw,GB,hx3];by_cases e:n=m.line
  ·rw[if_pos e,if_pos e,if_pos e,if_neg h4,if_neg h4]
  ·rw[if_neg e,if_neg e,if_neg e]
theorem K2 (hc:chk m=0) (hto:m.dst=d.id) (hk:m.kind=6) (hw:¬wr (stateOf d.L m.line)) :
  takeF d m=({ d with L:=dropL d.L m.line },[mkM 12 d.id 4 m.line AE m.hn],0)∧∀n,cvw { d with L:=dropL d.L m.line } n=if n=m.line then⟨0,AE,gvw d.giv n,avw d.ask n⟩ else cvw d n:=by
 refine⟨?_,fun n=>?_⟩
 ·unfold takeF;rw[if_neg (by simp[hc,hto]),if_neg (by omega),if_neg (by omega),if_pos hk,if_neg fun h=>hw ((wrb _).1 h)]
 ·unfold cvw;dsimp only;rw[Dw,GB];by_cases e:n=m.line
  ·rw[if_pos e,if_pos e,if_pos e]
  ·rw[if_neg e,if_neg e,if_neg e]
theorem JX (hc:chk m=0) (hto:m.dst=d.id) (hk:m.kind=7) (hg:gvw d.giv m.line≠none) :
  takeF d m=({ d with giv:=none },[],0)∧∀n,cvw { d with giv:=none } n=if n=m.line then⟨stateOf d.L n,bvw d.L n,none,avw d.ask n⟩ else cvw d n:=by
 obtain⟨b,hb⟩:∃b,gvw d.giv m.line=some b:=by
  cases h:gvw d.giv m.line with
  | none=>exact absurd h hg
  | some b=>exact⟨b,rfl⟩
 obtain⟨x,hx,hn,_⟩:=M3 hb;refine⟨?_,fun n=>?_⟩
 ·unfold takeF;rw[if_neg (by simp[hc,hto]),if_neg (by omega),if_neg (by omega),if_neg (by omega),if_pos (by rw[hx];simp[mine,hn])]
 ·unfold cvw;dsimp only;by_cases e:n=m.line
  ·rw[if_pos e];rfl
  ·rw[if_neg e,hx];congr 1;unfold gvw;dsimp only;rw[if_neg (by rw[hn];exact Ne.symm e)]
theorem Lw {L:List Ln} (hu:D7 L) {x:Ln} (hx:x∈L):AI L x.num=some x:=by
 unfold AI;induction L with
 | nil=>cases hx
 | cons y r ih=>
  rw[List.find?_cons];have hu':=List.pairwise_cons.1 hu;by_cases e:y.num=x.num
  ·have:AW x.num y=true:=by simp[AW,e]
   rw[this];rcases List.mem_cons.1 hx with h|h
   ·rw[h]
   ·exact absurd e (hu'.1 x h)
  ·have:AW x.num y=false:=by simp[AW,e]
   rw[this];rcases List.mem_cons.1 hx with h|h
   ·exact absurd (by rw[h]) e
   ·exact ih hu'.2 h
theorem KK (hd:DOk d) {x:Ln} (hx:x∈d.L):(stateOf d.L x.num=1∧outF d x=({ d with L:=dropL d.L x.num },[],true)∧∀n,cvw { d with L:=dropL d.L x.num } n=if n=x.num then⟨0,AE,gvw d.giv n,avw d.ask n⟩ else cvw d n) ∨
  (wr (stateOf d.L x.num)∧d.giv=none∧bvw d.L x.num=x.bs∧outF d x=({ d with L:=dropL d.L x.num,giv:=some x },[It d.id x],true)∧∀n,cvw { d with L:=dropL d.L x.num,giv:=some x } n=if n=x.num then⟨0,AE,some x.bs,avw d.ask n⟩ else cvw d n) ∨
  ((outF d x).1=d∧(outF d x).2.1=[]∧(outF d x).2.2=false):=by
 have hg:=Lw hd.uniq hx;have hst:stateOf d.L x.num=x.state:=by unfold stateOf;rw[hg];rfl
 have hrg:=hd.st x hx;have hbv:bvw d.L x.num=x.bs:=by unfold bvw;rw[hg];rfl
 by_cases h1:x.state=1
 ·refine .inl ⟨by rw[hst,h1],by unfold outF;rw[if_pos h1],fun n=>?_⟩;unfold cvw;dsimp only;rw[Dw,GB];by_cases e:n=x.num
  ·rw[if_pos e,if_pos e,if_pos e]
  ·rw[if_neg e,if_neg e,if_neg e]
 ·have hw:wr (stateOf d.L x.num):=by rw[hst];unfold wr;omega
  cases hgv:d.giv with
  | none=>
   refine .inr (.inl ⟨hw,rfl,hbv,by unfold outF;rw[if_neg h1,hgv],fun n=>?_⟩);unfold cvw;dsimp only;rw[Dw,GB,hgv];by_cases e:n=x.num
   ·rw[if_pos e,if_pos e,if_pos e];subst e;show(⟨0,AE,gvw (some x) x.num,_⟩:CV)=_;unfold gvw;dsimp only;rw[if_pos rfl]
   ·rw[if_neg e,if_neg e,if_neg e];congr 1;unfold gvw;dsimp only;rw[if_neg (Ne.symm e)]
  | some y=>exact .inr (.inr (by unfold outF;rw[if_neg h1,hgv];exact⟨rfl,rfl,rfl⟩))
end
def cd0:CD:=⟨0,1,1,[],none,none⟩
def cat (cs:List CD) (z:Int):CD:=if 0≤z then cs.getD z.toNat cd0 else cd0
def vw (cs:List CD) (n:Int) (z:Int):CV:=cvw (cat cs z) n
def wn (n:Int) (way:List Msg):List Msg:=way.filter fun m=>decide (m.line=n)
theorem FC (n:Int) (a b:List Msg):wn n (a++b)=wn n a++wn n b:=List.filter_append ..
theorem FV {n:Int} {m:Msg} {l:List Msg}:wn n (m::l)=if m.line=n then m::wn n l else wn n l:=by
 unfold wn;by_cases h:m.line=n
 ·rw[if_pos h,List.filter_cons_of_pos (by simp[h])]
 ·rw[if_neg h,List.filter_cons_of_neg (by simp[h])]
theorem Md {n:Int} {l:List Msg} (h:∀m∈l,m.line=n):wn n l=l:=List.filter_eq_self.2 fun m hm=>by simp[h m hm]
theorem IL {n k:Int} {l:List Msg} (h:∀m∈l,m.line=k) (hk:k≠n):wn n l=[]:=List.filter_eq_nil_iff.2 fun m hm=>by simp[h m hm,hk]
theorem Iz {cs:List CD} {c:Int} {d:CD} (h0:0≤c) (h1:c<cs.length) (z:Int):cat (cs.set c.toNat d) z=if z=c then d else cat cs z:=by
 unfold cat;by_cases hz:0≤z
 ·rw[if_pos hz,if_pos hz];by_cases e:z=c
  ·subst e;rw[if_pos rfl];have:z.toNat<cs.length:=by omega
   simp[List.getD,this]
  ·rw[if_neg e];have:c.toNat≠z.toNat:=by omega
   simp[List.getD,List.getElem?_set,this]
 ·rw[if_neg hz,if_neg hz,if_neg (by omega)]
theorem YD {cs:List CD} {c:Int} {d:CD} (h0:0≤c) (h1:c<cs.length) (n:Int):vw (cs.set c.toNat d) n=updC (vw cs n) c (cvw d n):=by funext z;unfold vw updC;rw[Iz h0 h1];split<;>rfl
theorem NH (v:Int→CV) (c:Int):updC v c (v c)=v:=by
 funext z;unfold updC;split
 ·rename_i h;rw[h]
 ·rfl
def LS (cs:List CD) (h:HD) (way:List Msg) (cur:B16) (n:Nat):Prop:=
 LI cs.length (Aa h.E n) (Ah h.bs n) cur (vw cs n) ((wn n way).flatMap er) (fun c=>(wn n way).flatMap (gt c)++(Aa h.E n).q.flatMap (gt c)) (fun c=>(wn n way).flatMap (pt c)++(Aa h.E n).q.flatMap (pt c)) (fun c=>(wn n way).flatMap (kt c))
theorem LS.perm {cs:List CD} {h:HD} {way way':List Msg} {cur:B16} {n:Nat} (hl:LS cs h way cur n) (hp:(wn n way).Perm (wn n way')):LS cs h way' cur n:=
 LI.perm hl (hp.flatMap_right _) (fun c=>List.Perm.append_right _ (hp.flatMap_right _)) (fun c=>List.Perm.append_right _ (hp.flatMap_right _)) (fun c=>hp.flatMap_right _)
structure GM (M:Int) (N:Nat) (m:Msg):Prop where
 line:m.line.toNat<N
 chk:Go.Proofs.YtpfijldkkfiooaaGreatDoor.chk m=0
 rng:(m.dst=4∧(0≤m.src∧m.src<M))∨(m.dst≠4∧(0≤m.dst∧m.dst<M)∧(4≤m.kind∧m.kind≤10))
structure SI (cs:List CD) (h:HD) (way:List Msg) (last:Nat→B16) (k:Nat):Prop where
 len:1≤cs.length∧cs.length≤4
 ok:∀c:Int,0≤c→c<cs.length→DOk (cat cs c)∧(cat cs c).id=c
 hi:HI k h
 good:∀m∈way,GM cs.length h.E.length m
 li:∀n,n<h.E.length→LS cs h way (last n) n
 q:∀n,n<h.E.length→∀m∈(Aa h.E n).q,m.src<cs.length
 z:∀c:Int,0≤c→c<cs.length→∀n:Int,¬(0≤n∧n<h.E.length)→(cvw (cat cs c) n).s=0∧(cvw (cat cs c) n).a=none∧(cvw (cat cs c) n).g=none
def Sd (m y:Msg):Prop:=∃k dst b,y=Af m k dst b∧(4≤k∧k≤10)∧(b=AE∨8≤k)
theorem Mq {bs:List Int} {d:Ent} {m:Msg} (hk:1≤m.kind∧m.kind≤3):∀y∈(beginF bs d m).2.2,Sd m y:=by
 unfold beginF;dsimp only;intro y hy;split at hy
 ·simp at hy;exact⟨7,_,_,hy,by decide,.inl rfl⟩
 ·split at hy
  ·simp at hy;exact⟨_,_,_,hy,by omega,.inl rfl⟩
  ·split at hy
   ·split at hy
    ·simp at hy;exact⟨10,_,_,hy,by decide,.inr (by decide)⟩
    ·obtain⟨c,_,hc⟩:=List.mem_map.1 hy;exact⟨6,_,_,hc.symm,by decide,.inl rfl⟩
   ·split at hy
    ·simp at hy;exact⟨9,_,_,hy,by decide,.inr (by decide)⟩
    ·simp at hy;exact⟨8,_,_,hy,by decide,.inr (by decide)⟩
theorem MJ {n:Int}:∀(q:List Msg) (bs:List Int) (d:Ent),(∀m∈q,ROk n m)→∀y∈(drainF q bs d).2.2,∃m,m.line=n∧Sd m y
 | [],bs,d,hq,y,hy=>by cases hy
 | m::r,bs,d,hq,y,hy=>by
  rw[drain_cons] at hy;have hm:=hq m (List.mem_cons_self ..);split at hy
  ·cases hy
  ·rcases List.mem_append.1 hy with hy|hy
   ·exact⟨m,hm.line,Mq hm.kind y hy⟩
   ·exact MJ r _ _ (fun x hx=>hq x (List.mem_cons_of_mem _ hx)) y hy
theorem Tg {n:Int} {bs:List Int} {d:Ent} {m:Msg} (hm:m.line=n) (hq:∀m∈d.q,ROk n m):∀y∈(otherF bs d m).2.2,∃m,m.line=n∧Sd m y:=by
 intro y hy;unfold otherF at hy;split at hy
 ·exact MJ d.q _ _ hq y hy
 ·split at hy
  ·dsimp only at hy;split at hy
   ·simp at hy;exact⟨m,hm,8,_,_,hy,by decide,.inr (by decide)⟩
   ·simp at hy;exact⟨m,hm,10,_,_,hy,by decide,.inr (by decide)⟩
  ·split at hy
   ·simp at hy;exact⟨m,hm,10,_,_,hy,by decide,.inr (by decide)⟩
   ·cases hy
theorem Yn {m y:Msg} (h:Sd m y) (hd:0≤y.dst∧y.dst<4):chk y=0:=by
 obtain⟨k,dst,b,rfl,hk,hb⟩:=h;have hd':0≤dst∧dst<4:=hd;have h1:B2 dst=true:=by unfold B2;simp;omega
 have h2:Ei k=true:=by unfold Ei;simp;omega
 have h3:(Cb k || decide (b=bs0))=true:=by
  rcases hb with rfl|h
  ·simp[bs0]
  ·unfold Cb;simp;omega
 show chk (mkM k 4 dst m.line b m.hn)=0;unfold chk Cd mkM;simp[h1,h2,h3]
theorem KD {M:Int} {N:Nat} {m:Msg} (g:GM M N m) (hd:m.dst=4):(0≤m.src∧m.src<M)∧((1≤m.kind∧m.kind≤3)∨(11≤m.kind∧m.kind≤13)):=by
 obtain⟨hh,_⟩:=chk_home g.chk hd;unfold CH at hh;simp at hh;rcases g.rng with⟨_,h⟩|⟨h,_⟩
 ·exact⟨h,by omega⟩
 ·exact absurd hd h
theorem Tf {M:Int} {d:Ent} {mem cur:B16} {v:Int→CV} {R:List ER} {G:Int→List Bool} {P:Int→List B16} {A:Int→List Unit} {m:Msg} {n:Int} (h:LI M d mem cur v (er m++R) G P A) (hi:EI n d) (hk:11≤m.kind∧m.kind≤13):strayF d m=false:=by
 obtain⟨R',sv,hp,hph,ht⟩:=h.ph
 have he:er m=[(m.kind,m.src,if m.kind=11 then m.bs else AE)]:=Fh rfl (by omega) (if_neg (by omega)) (by
  by_cases e:m.kind=11
  ·rw[if_pos (by omega),if_pos e]
  ·rw[if_neg (by omega),if_neg e])
 rw[he] at hp;have one:∀{k z:Int} {b:B16},([(m.kind,m.src,if m.kind=11 then m.bs else AE)]++R).Perm [(k,z,b)]→m.kind=k∧m.src=z:=fun h=>by have:=(Ai h).1;simp only[Prod.mk.injEq] at this;exact⟨this.1,this.2.1⟩
 unfold strayF;cases hph with
 | idleO a=>exact absurd hp.length_eq (by simp)
 | idleS a=>exact absurd hp.length_eq (by simp)
 | fwd a=>have:=(one hp).1;have:=hi.ok.kind a;omega
 | back a b c e f g i=>obtain⟨h1,h2⟩:=one hp;simp[a,h1,h2,e]
 | drops C a b c e f g i j k l=>
  obtain⟨x,hx,hx'⟩:=List.mem_map.1 (MN hp);simp only[Prod.mk.injEq] at hx';obtain⟨k1,k2,k3⟩:=k x hx;have h12:m.kind=12:=by have:=hx'.1;by_cases h2:x.2=true<;>simp[h2] at this<;>omega
  rw[hx'.2.1] at k1 k2;simp[a,h12,k1,k2];omega
 | dataO k a b c e f g=>have:=(one hp).1;omega
 | dataS a=>have:=(one hp).1;omega
 | doneO a b=>obtain⟨h1,h2⟩:=one hp;simp[a,b,h1,h2]
 | doneS a b=>obtain⟨h1,h2⟩:=one hp;simp[a,b,h1,h2]
theorem SI.home {cs:List CD} {h:HD} {way rest:List Msg} {last:Nat→B16} {k:Nat} {m:Msg} (s:SI cs h way last k) (hp:way.Perm (m::rest)) (hd:m.dst=4) :
  (takeH h m).2.2=0∧SI cs (takeH h m).1 (rest++(takeH h m).2.1) last (k+1):=by
 have hg:=s.good m (hp.symm.subset (List.mem_cons_self ..));obtain⟨hsrc,hk⟩:=KD hg hd;have hln:=hg.line;have hmn:=m.hn;have hline:m.line=((m.line.toNat:Nat):Int):=by omega
 obtain⟨e1,e2,e3⟩:=s.hi.2 _ hln;have hM:(cs.length:Int)≤4:=by have:=s.len;omega
 have hbl:m.line.toNat<h.bs.length/16:=by rw[←s.hi.1];exact hln
 have hrest:∀x∈rest,GM cs.length h.E.length x:=fun x hx=>s.good x (hp.symm.subset (List.mem_cons_of_mem _ hx));have hpf:∀n:Int,(wn n way).Perm (wn n (m::rest)):=fun n=>hp.filter _
 have hL:LI cs.length (Aa h.E m.line.toNat) (Ah h.bs m.line.toNat) (last m.line.toNat) (vw cs m.line.toNat) (er m++(wn m.line.toNat rest).flatMap er) (fun c=>(gt c m++(wn m.line.toNat rest).flatMap (gt c))++(Aa h.E m.line.toNat).q.flatMap (gt c)) (fun c=>(pt c m++(wn m.line.toNat rest).flatMap (pt c))++(Aa h.E m.line.toNat).q.flatMap (pt c)) (fun c=>kt c m++(wn m.line.toNat rest).flatMap (kt c)):=by have h1:=(s.li _ hln).perm (hpf _);unfold LS at h1;rw[FV,if_pos hline] at h1;exact h1
 have hkt:∀c,kt c m=[]:=fun c=>E9 (by omega);have hkt':(fun c=>kt c m++(wn m.line.toNat rest).flatMap (kt c))=fun c=>(wn m.line.toNat rest).flatMap (kt c):=by funext c;rw[hkt];rfl
 rw[hkt'] at hL;have hz:(takeH h m).2.2=0:=by refine take_zero hg.chk hd hln fun h3=>?_;exact Tf hL e1 (by omega)
 refine⟨hz,?_⟩;have hI:=s.hi.take m;have hoth:∀n:Nat,n<h.E.length→n≠m.line.toNat→Aa (takeH h m).1.E n=Aa h.E n∧Ah (takeH h m).1.bs n=Ah h.bs n:=fun n hn hne=>by have:=OV s.hi (m:=m) (k:=((n:Nat):Int)) (by omega) (by rw[Int.toNat_natCast];exact hn) (by omega);rw[Int.toNat_natCast] at this;exact this
 rcases take_cases h m with⟨e,he,hne⟩|⟨_,_,_,_,_,x,hx,hcs⟩
 ·rw[he] at hz;exact absurd hz hne
 rw[hx] at hI hoth⊢;have hE:(h.E.set m.line.toNat x.1).length=h.E.length:=List.length_set
 have fin:LI cs.length x.1 (Ah x.2.1 m.line.toNat) (last m.line.toNat) (vw cs m.line.toNat) ((wn m.line.toNat rest).flatMap er++x.2.2.flatMap er) (fun c=>(wn m.line.toNat rest).flatMap (gt c)++x.1.q.flatMap (gt c)) (fun c=>(wn m.line.toNat rest).flatMap (pt c)++x.1.q.flatMap (pt c)) (fun c=>(wn m.line.toNat rest).flatMap (kt c)++x.2.2.flatMap (kt c)) →
   (∀y∈x.2.2,y.line=((m.line.toNat:Nat):Int)∧(4≤y.kind∧y.kind≤10)∧(0≤y.dst∧y.dst<cs.length))→(∀y∈x.2.2,∃m',Sd m' y)→(∀z∈x.1.q,z.src<cs.length)→SI cs ⟨x.2.1,h.E.set m.line.toNat x.1⟩ (rest++x.2.2) last (k+1):=by
  intro h1 h2 h3 h4;have hout:∀y∈x.2.2,y.line=((m.line.toNat:Nat):Int):=fun y hy=>(h2 y hy).1;refine⟨s.len,s.ok,hI,?_,?_,?_,fun c h0 h1 n hn=>s.z c h0 h1 n (by rw[←hE];exact hn)⟩
  ·intro y hy;show GM cs.length (h.E.set m.line.toNat x.1).length y;rw[hE];rcases List.mem_append.1 hy with hy|hy
   ·exact hrest y hy
   ·obtain⟨a,b,c⟩:=h2 y hy;obtain⟨m',hs'⟩:=h3 y hy;exact⟨by rw[a,Int.toNat_natCast];exact hln,Yn hs' (by omega),.inr ⟨by omega,c,b⟩⟩
  ·intro n hn;replace hn:n<h.E.length:=by rw[←hE];exact hn
   by_cases e:n=m.line.toNat
   ·subst e;unfold LS;show LI cs.length (Aa (h.E.set m.line.toNat x.1) m.line.toNat) (Ah x.2.1 m.line.toNat) _ _ _ (fun c=>_++(Aa (h.E.set m.line.toNat x.1) m.line.toNat).q.flatMap (gt c)) (fun c=>_++(Aa (h.E.set m.line.toNat x.1) m.line.toNat).q.flatMap (pt c)) _;rw[Ey hln,if_pos rfl,FC,Md hout];refine h1.perm (by rw[List.flatMap_append]) (fun c=>?_) (fun c=>?_) (fun c=>by rw[List.flatMap_append])
    ·have:x.2.2.flatMap (gt c)=[]:=by rw[List.flatMap_eq_nil_iff];exact fun y hy=>Jr (by have:=(h2 y hy).2.1;rintro⟨_,h|h⟩<;>omega)
     rw[List.flatMap_append,this,List.append_nil]
    ·have:x.2.2.flatMap (pt c)=[]:=by rw[List.flatMap_eq_nil_iff];exact fun y hy=>JN (by have:=(h2 y hy).2.1;rintro⟨_,h⟩;omega)
     rw[List.flatMap_append,this,List.append_nil]
   ·obtain⟨o1,o2⟩:=hoth n hn e;have h5:=(s.li n hn).perm (hpf n);unfold LS at h5⊢;rw[FV,if_neg (by omega)] at h5;rw[o1,o2,FC,IL hout (by omega),List.append_nil];exact h5
  ·intro n hn z hz';replace hn:n<h.E.length:=by rw[←hE];exact hn
   by_cases e:n=m.line.toNat
   ·subst e;have hz2:z∈(Aa (h.E.set m.line.toNat x.1) m.line.toNat).q:=hz';rw[Ey hln,if_pos rfl] at hz2;exact h4 z hz2
   ·rw[(hoth n hn e).1] at hz';exact s.q n hn z hz'
 have hqs:=s.q _ hln;rcases hcs with⟨a,b,c,rfl⟩|⟨a,b,c,rfl⟩|⟨a,b,rfl⟩
 ·have her:er m=[]:=by unfold er;rw[if_neg (by omega)]
  rw[her,List.nil_append] at hL;refine fin ?_ (fun y hy=>by cases hy) (fun y hy=>by cases hy) fun z hz'=>?_
  ·refine(hL.q ((Aa h.E m.line.toNat).q++[m])).perm (by show List.Perm _ (_++[]);rw[List.append_nil]) (fun c=>?_) (fun c=>?_) (fun c=>by show List.Perm _ (_++[]);rw[List.append_nil])
   ·show List.Perm _ (_++((Aa h.E m.line.toNat).q++[m]).flatMap (gt c));rw[List.flatMap_append,List.flatMap_cons,List.flatMap_nil,List.append_nil,←List.append_assoc];exact(List.append_assoc _ _ _ ▸ List.perm_append_comm)
   ·show List.Perm _ (_++((Aa h.E m.line.toNat).q++[m]).flatMap (pt c));rw[List.flatMap_append,List.flatMap_cons,List.flatMap_nil,List.append_nil,←List.append_assoc];exact(List.append_assoc _ _ _ ▸ List.perm_append_comm)
  ·rcases List.mem_append.1 (show z∈(Aa h.E m.line.toNat).q++[m] from hz') with h|h
   ·exact hqs z h
   ·simp at h;subst h;exact hsrc.2
 ·have her:er m=[]:=by unfold er;rw[if_neg (by omega)]
  rw[her,List.nil_append] at hL;have hR:=(hL.idle c).1;rw[hR] at hL fin;have hm:ROk ((m.line.toNat:Nat):Int) m:=⟨⟨a,b⟩,⟨hsrc.1,by omega⟩,hline⟩
  obtain⟨b1,b2⟩:=Kh (bs:=h.bs) (m:=m) (GW:=fun c=>(wn m.line.toNat rest).flatMap (gt c)) (PW:=fun c=>(wn m.line.toNat rest).flatMap (pt c)) (q:=(Aa h.E m.line.toNat).q) (hL.perm (List.Perm.refl _) (fun c=>by rw[←List.append_assoc];exact List.Perm.append_right _ List.perm_append_comm) (fun c=>by rw[←List.append_assoc];exact List.Perm.append_right _ List.perm_append_comm) (fun c=>List.Perm.refl _)) hM e1 c hm hsrc.2 (by omega) (by omega);refine fin ?_ b2 (fun y hy=>⟨m,Mq ⟨a,b⟩ y hy⟩) (by rw[FG];exact hqs);rw[FG];exact b1
 ·have hgt:∀c,gt c m=[]:=fun c=>Jr (by rintro⟨_,h|h⟩<;>omega);have hpt:∀c,pt c m=[]:=fun c=>JN (by rintro⟨_,h⟩;omega);have hL':=hL.perm (List.Perm.refl _) (G':=fun c=>(wn m.line.toNat rest).flatMap (gt c)++(Aa h.E m.line.toNat).q.flatMap (gt c)) (P':=fun c=>(wn m.line.toNat rest).flatMap (pt c)++(Aa h.E m.line.toNat).q.flatMap (pt c)) (fun c=>by rw[hgt];exact List.Perm.refl _) (fun c=>by rw[hpt];exact List.Perm.refl _) (fun c=>List.Perm.refl _);obtain⟨b1,b2,b3⟩:=Te (bs:=h.bs) (m:=m) hL' hM e1 hqs (by omega) hline (by omega) (by omega)
  refine fin b1 b2 (fun y hy=>?_) b3;obtain⟨m',_,hs'⟩:=Tg hline e1.ok.rest y hy;exact⟨m',hs'⟩
theorem SI.upd1 {cs:List CD} {h:HD} {way W:List Msg} {last last':Nat→B16} {k:Nat} (s:SI cs h way last k) {c:Int} (h0:0≤c) (h1:c<cs.length) {d':CD} (hd:DOk d') (hid:d'.id=c) {n0:Nat} (hn0:n0<h.E.length) (hlast:∀n,n≠n0→last' n=last n) (hW:∀n:Nat,n≠n0→(wn n way).Perm (wn n W)) (hg:∀m∈W,GM cs.length h.E.length m) (hcv:∀n:Int,n≠n0→cvw d' n=cvw (cat cs c) n)
  (hL:LI cs.length (Aa h.E n0) (Ah h.bs n0) (last' n0) (updC (vw cs n0) c (cvw d' n0)) ((wn n0 W).flatMap er) (fun z=>(wn n0 W).flatMap (gt z)++(Aa h.E n0).q.flatMap (gt z)) (fun z=>(wn n0 W).flatMap (pt z)++(Aa h.E n0).q.flatMap (pt z)) (fun z=>(wn n0 W).flatMap (kt z))):SI (cs.set c.toNat d') h W last' k:=by
 have hlen:(cs.set c.toNat d').length=cs.length:=List.length_set;refine⟨by rw[hlen];exact s.len,fun z z0 z1=>?_,s.hi,by rw[hlen];exact hg,fun n hn=>?_,by rw[hlen];exact s.q,fun z z0 z1 n hn=>?_⟩
 ·rw[hlen] at z1;rw[Iz h0 h1];split
  ·rename_i e;rw[e];exact⟨hd,hid⟩
  ·exact s.ok z z0 z1
 ·unfold LS;rw[hlen,YD h0 h1];by_cases e:n=n0
  ·subst e;exact hL
  ·rw[hlast n e,hcv n (by omega),show cvw (cat cs c) n=vw cs n c from rfl,NH];exact(s.li n hn).perm (hW n e)
 ·rw[hlen] at z1;rw[Iz h0 h1];split
  ·rw[hcv n (by omega)];exact s.z c h0 h1 n hn
  ·exact s.z z z0 z1 n hn
theorem K6 {M c:Int} {N:Nat} {n:Int} {b:B16} {h:0≤n∧n<4294967296} {k:Int} (hn:n.toNat<N) (hc:0≤c∧c<M) (hM:M≤4) (hk:(k=11)∨((k=12∨k=13∨k=1∨k=2)∧b=AE)∨k=3):GM M N (mkM k c 4 n b h):=by
 refine⟨hn,?_,.inl ⟨rfl,hc⟩⟩;have h1:B2 c=true:=by unfold B2;simp;omega
 unfold chk Cd mkM;rcases hk with rfl|⟨rfl|rfl|rfl|rfl,rfl⟩|rfl<;>simp[h1,CH,Cb,bs0]
theorem SI.atl {cs:List CD} {h:HD} {way rest:List Msg} {last:Nat→B16} {k:Nat} {m:Msg} (s:SI cs h way last k) (hp:way.Perm (m::rest)) (hd:m.dst≠4) :
  (0≤m.dst∧m.dst<cs.length)∧(4≤m.kind∧m.kind≤10)∧m.line.toNat<h.E.length∧LI cs.length (Aa h.E m.line.toNat) (Ah h.bs m.line.toNat) (last m.line.toNat) (vw cs m.line.toNat) (er m++(wn m.line.toNat rest).flatMap er) (fun c=>(wn m.line.toNat rest).flatMap (gt c)++(Aa h.E m.line.toNat).q.flatMap (gt c)) (fun c=>(wn m.line.toNat rest).flatMap (pt c)++(Aa h.E m.line.toNat).q.flatMap (pt c)) (fun c=>kt c m++(wn m.line.toNat rest).flatMap (kt c)):=by
 have hg:=s.good m (hp.symm.subset (List.mem_cons_self ..))
 obtain⟨hrng,hk⟩:(0≤m.dst∧m.dst<cs.length)∧(4≤m.kind∧m.kind≤10):=by
  rcases hg.rng with⟨h,_⟩|⟨_,h⟩
  ·exact absurd h hd
  ·exact h
 have hln:=hg.line;have hmn:=m.hn;have hline:m.line=((m.line.toNat:Nat):Int):=by omega
 have hpf:∀n:Int,(wn n way).Perm (wn n (m::rest)):=fun n=>hp.filter _;have hgt:∀c,gt c m=[]:=fun c=>Jr (by rintro⟨_,h|h⟩<;>omega);have hpt:∀c,pt c m=[]:=fun c=>JN (by rintro⟨_,h⟩;omega);refine⟨hrng,hk,hln,?_⟩;have h1:=(s.li _ hln).perm (hpf _);unfold LS at h1;rw[FV,if_pos hline] at h1;refine h1.perm (List.Perm.refl _) (fun c=>?_) (fun c=>?_) (fun c=>List.Perm.refl _)
 ·rw[List.flatMap_cons,hgt];exact List.Perm.refl _
 ·rw[List.flatMap_cons,hpt];exact List.Perm.refl _
theorem SI.cache {cs:List CD} {h:HD} {way rest:List Msg} {last:Nat→B16} {k:Nat} {m:Msg} (s:SI cs h way last k) (hp:way.Perm (m::rest)) (hd:m.dst≠4) :
  (0≤m.dst∧m.dst<cs.length)∧(takeF (cat cs m.dst) m).2.2=0∧SI (cs.set m.dst.toNat (takeF (cat cs m.dst) m).1) h (rest++(takeF (cat cs m.dst) m).2.1) last k:=by
 have hg:=s.good m (hp.symm.subset (List.mem_cons_self ..));obtain⟨hrng,hk,hln,hL⟩:=s.atl hp hd;refine⟨hrng,?_⟩;have hmn:=m.hn;have hline:m.line=((m.line.toNat:Nat):Int):=by omega
 obtain⟨e1,e2,e3⟩:=s.hi.2 _ hln;have hM:(cs.length:Int)≤4:=by have:=s.len;omega
 have hrest:∀x∈rest,GM cs.length h.E.length x:=fun x hx=>s.good x (hp.symm.subset (List.mem_cons_of_mem _ hx));obtain⟨hdo,hid⟩:=s.ok m.dst hrng.1 hrng.2;have hto:m.dst=(cat cs m.dst).id:=hid.symm;have hpf:∀n:Int,(wn n way).Perm (wn n (m::rest)):=fun n=>hp.filter _;have hW:∀(out:List Msg),(∀y∈out,y.line=((m.line.toNat:Nat):Int))→∀n:Nat,n≠m.line.toNat→(wn n way).Perm (wn n (rest++out)):=by intro out ho n hne;rw[FC,IL ho (by omega),List.append_nil];have:=hpf n;rwa[FV,if_neg (by omega)] at this
 have hDT:=hdo.take m
 -- an answer goes home
 have fin:∀(d':CD) (kk:Int) (b:B16),DOk d'→d'.id=m.dst→(kk=11∨((kk=12∨kk=13)∧b=AE))→(∀n:Int,n≠((m.line.toNat:Nat):Int)→cvw d' n=cvw (cat cs m.dst) n)→LI cs.length (Aa h.E m.line.toNat) (Ah h.bs m.line.toNat) (last m.line.toNat) (updC (vw cs m.line.toNat) m.dst (cvw d' m.line.toNat)) ((kk,m.dst,b)::(wn m.line.toNat rest).flatMap er) (fun c=>(wn m.line.toNat rest).flatMap (gt c)++(Aa h.E m.line.toNat).q.flatMap (gt c)) (fun c=>(wn m.line.toNat rest).flatMap (pt c)++(Aa h.E m.line.toNat).q.flatMap (pt c)) (fun c=>(wn m.line.toNat rest).flatMap (kt c)) →
   SI (cs.set m.dst.toNat d') h (rest++[mkM kk m.dst 4 m.line b m.hn]) last k:=by
  intro d' kk b h1 h2 h3 h4 h5;have hol:∀y∈[mkM kk m.dst 4 m.line b m.hn],y.line=((m.line.toNat:Nat):Int):=fun y hy=>by simp at hy;subst hy;exact hline
  refine s.upd1 hrng.1 hrng.2 h1 h2 (n0:=m.line.toNat) hln (fun _ _=>rfl) (hW _ hol) (fun y hy=>?_) h4 ?_
  ·rcases List.mem_append.1 hy with hy|hy
   ·exact hrest y hy
   ·simp at hy;subst hy;exact K6 hln hrng hM (by rcases h3 with h|⟨h,e⟩;exact .inl h;exact .inr (.inl ⟨by omega,e⟩))
  ·rw[FC,Md hol];refine h5.perm ?_ (fun c=>?_) (fun c=>?_) (fun c=>?_)
   ·have:er (mkM kk m.dst 4 m.line b m.hn)=[(kk,m.dst,b)]:=by rcases h3 with rfl|⟨rfl|rfl,rfl⟩<;>rfl
    rw[List.flatMap_append,List.flatMap_cons,this];exact List.perm_append_comm (l₁:=[_])
   ·rw[List.flatMap_append,List.flatMap_cons,Jr (by rintro⟨_,h|h⟩<;>(have h:kk=_:=h;omega))];simp
   ·rw[List.flatMap_append,List.flatMap_cons,JN (by rintro⟨_,h⟩;have h:kk=3:=h;omega)];simp
   ·rw[List.flatMap_append,List.flatMap_cons,E9 (by show kk≠7;omega)];simp
 have hkd:=e1.ok.kind;by_cases h8:m.kind=8∨m.kind=9∨m.kind=10
 ·have hkt:∀c,kt c m=[]:=fun c=>E9 (by omega);obtain⟨_,ha,hgn,hbs,hli⟩:=Pp (m:=m) (hL.perm (List.Perm.refl _) (fun c=>List.Perm.refl _) (fun c=>List.Perm.refl _) (fun c=>by rw[hkt])) h8 hkd rfl _ rfl;have ha':avw (cat cs m.dst).ask m.line=some (decide (m.kind=10)):=by rw[hline];exact ha
  obtain⟨t1,t2⟩:=K1 hdo hg.chk hto h8 ha';rw[t1] at hDT⊢;refine⟨rfl,?_⟩;rw[show(cat cs m.dst).id=m.dst from hid] at *;refine fin _ 13 AE hDT hid (.inr ⟨.inr rfl,rfl⟩) (fun n hn=>?_) ?_
  ·rw[t2,if_neg (by omega)]
  ·rw[t2,if_pos hline.symm];exact hli
 by_cases h4:m.kind=4∨m.kind=5
 ·have hkt:∀c,kt c m=[]:=fun c=>E9 (by omega);obtain⟨_,hsh⟩:=NA (m:=m) (hL.perm (List.Perm.refl _) (fun c=>List.Perm.refl _) (fun c=>List.Perm.refl _) (fun c=>by rw[hkt])) h4 hkd rfl AE;rcases hsh with⟨hgv,hli⟩|⟨hgn,hw,hbc,hli⟩
  ·have hgv':gvw (cat cs m.dst).giv m.line=some (last m.line.toNat):=by rw[hline];exact hgv
   have t1:=Hd hg.chk hto h4 hgv';rw[t1];refine⟨rfl,?_⟩;rw[show(cat cs m.dst).id=m.dst from hid];refine fin _ 11 _ hdo hid (.inl rfl) (fun n hn=>rfl) ?_;rw[show cvw (cat cs m.dst) m.line.toNat=vw cs m.line.toNat m.dst from rfl,NH];exact hli
  ·have hgn':gvw (cat cs m.dst).giv m.line=none:=by rw[hline];exact hgn
   have hw':wr (stateOf (cat cs m.dst).L m.line):=by rw[hline];exact hw
   obtain⟨L',t1,t2⟩:=He hg.chk hto h4 hgn' hw';rw[t1] at hDT⊢;refine⟨rfl,?_⟩;rw[show(cat cs m.dst).id=m.dst from hid] at *;have hb9:bvw (cat cs m.dst).L m.line=last m.line.toNat:=by rw[hline];exact hbc
   rw[hb9] at t2⊢;refine fin _ 11 _ hDT hid (.inl rfl) (fun n hn=>?_) ?_
   ·rw[t2,if_neg (by omega)]
   ·rw[t2,if_pos hline.symm];exact hli
 by_cases h6:m.kind=6
 ·have hkt:∀c,kt c m=[]:=fun c=>E9 (by omega);obtain⟨_,hnw,hli⟩:=Pt (m:=m) (hL.perm (List.Perm.refl _) (fun c=>List.Perm.refl _) (fun c=>List.Perm.refl _) (fun c=>by rw[hkt])) h6 hkd rfl AE;have hnw':¬wr (stateOf (cat cs m.dst).L m.line):=by rw[hline];exact hnw
  obtain⟨t1,t2⟩:=K2 hg.chk hto h6 hnw';rw[t1] at hDT⊢;refine⟨rfl,?_⟩;rw[show(cat cs m.dst).id=m.dst from hid] at *;refine fin _ 12 AE hDT hid (.inr ⟨.inl rfl,rfl⟩) (fun n hn=>?_) ?_
  ·rw[t2,if_neg (by omega)]
  ·rw[t2,if_pos hline.symm];exact hli
 ·have h7:m.kind=7:=by omega
  have her:er m=[]:=by unfold er;rw[if_neg (by omega)]
  rw[her,List.nil_append] at hL;have hk1:kt m.dst m=[()]:=by unfold kt;rw[if_pos ⟨rfl,h7⟩]
  obtain⟨hgn,hli⟩:=Mm hL hrng (l:=(wn m.line.toNat rest).flatMap (kt m.dst)) (by show kt m.dst m++_=_;rw[hk1];rfl);have hgn':gvw (cat cs m.dst).giv m.line≠none:=by rw[hline];exact hgn
  obtain⟨t1,t2⟩:=JX hg.chk hto h7 hgn';rw[t1] at hDT⊢;refine⟨rfl,?_⟩;rw[show(rest++({ cat cs m.dst with giv:=none },([]:List Msg),(0:Int)).2.1)=rest from List.append_nil _];refine s.upd1 hrng.1 hrng.2 hDT hid (n0:=m.line.toNat) hln (fun _ _=>rfl) (fun n hn=>?_) hrest (fun n hn=>?_) ?_
  ·have:=hW [] (fun y hy=>by cases hy) n hn;rwa[List.append_nil] at this
  ·rw[t2,if_neg (by omega)]
  ·rw[t2,if_pos hline.symm];refine hli.perm (List.Perm.refl _) (fun c=>List.Perm.refl _) (fun c=>List.Perm.refl _) (fun c=>?_);unfold Nn;by_cases e:c=m.dst
   ·subst e;rw[if_pos rfl]
   ·rw[if_neg e];show(kt c m++_).Perm _;rw[show kt c m=[] from if_neg fun h=>e h.1.symm];exact List.Perm.refl _
theorem Nl {α:Type} (A Q B:List α):((A++Q)++B).Perm ((A++B)++Q):=by rw[List.append_assoc,List.append_assoc];exact List.Perm.append_left _ List.perm_append_comm
theorem set_cat {cs:List CD} {c:Int} (h0:0≤c):cs.set c.toNat (cat cs c)=cs:=by
 unfold cat;rw[if_pos h0];apply List.ext_getElem?;intro i;rw[List.getElem?_set];split
 ·rename_i e;subst e;split
  ·rename_i hl;simp[List.getD,hl]
  ·rename_i hl;simp at hl;simp[hl]
 ·rfl
section
variable {cs:List CD} {h:HD} {way:List Msg} {last:Nat→B16} {k:Nat} {c:Int}
theorem SI.keep (s:SI cs h way last k) (h0:0≤c) {d:CD} (hd:d=cat cs c):SI (cs.set c.toNat d) h (way++[]) last k:=by rw[hd,set_cat h0,List.append_nil];exact s
theorem SI.low (s:SI cs h way last k) (h0:0≤c) (h1:c<cs.length) {n:Int} (hn:0≤n) (hs:stateOf (cat cs c).L n≠0):n.toNat<h.E.length:=by refine Nat.lt_of_not_le fun hle=>hs ?_;exact(s.z c h0 h1 n (by omega)).1
theorem SI.out (s:SI cs h way last k) (h0:0≤c) (h1:c<cs.length) {x:Ln} (hx:x∈(cat cs c).L):SI (cs.set c.toNat (outF (cat cs c) x).1) h (way++(outF (cat cs c) x).2.1) last k:=by
 obtain⟨hdo,hid⟩:=s.ok c h0 h1;have hrg:=hdo.st x hx;have hst:stateOf (cat cs c).L x.num=x.state:=by unfold stateOf;rw[Lw hdo.uniq hx];rfl
 have hxn:=x.hn;have hN:=s.low h0 h1 (n:=x.num) hxn.1 (by omega);have hn:x.num=((x.num.toNat:Nat):Int):=by omega
 have hl:=s.li _ hN;unfold LS at hl;have hD:=hdo.out x;have hM:(cs.length:Int)≤4:=by have:=s.len;omega
 rcases KK hdo hx with⟨a,e,f⟩|⟨a,b,g,e,f⟩|⟨e1,e2,e3⟩
 ·rw[e] at hD⊢;dsimp only;rw[List.append_nil];refine s.upd1 h0 h1 hD hid hN (fun _ _=>rfl) (fun _ _=>List.Perm.refl _) s.good (fun j hj=>?_) ?_
  ·rw[f,if_neg (by omega)]
  ·rw[f,if_pos hn.symm];exact VE hl ⟨h0,h1⟩ (by show stateOf _ _=1;rw[←hn];exact a) AE
 ·rw[e] at hD⊢;dsimp only;rw[show It (cat cs c).id x=It c x by rw[hid]];have hol:∀y∈[It c x],y.line=((x.num.toNat:Nat):Int):=fun y hy=>by simp at hy;subst hy;exact hn
  refine s.upd1 h0 h1 hD hid hN (fun _ _=>rfl) (fun j hj=>?_) (fun y hy=>?_) (fun j hj=>?_) ?_
  ·rw[FC,IL hol (by omega),List.append_nil]
  ·rcases List.mem_append.1 hy with hy|hy
   ·exact s.good y hy
   ·simp at hy;subst hy;exact K6 hN ⟨h0,h1⟩ hM (.inr (.inr rfl))
  ·rw[f,if_neg (by omega)]
  ·rw[f,if_pos hn.symm,FC,Md hol];have:=VF hl ⟨h0,h1⟩ (by show wr (stateOf _ _);rw[←hn];exact a) AE;rw[show(vw cs ((x.num.toNat:Nat):Int) c).b=x.bs by show bvw _ _=_;rw[←hn];exact g] at this;refine this.perm ?_ (fun z=>?_) (fun z=>?_) (fun z=>?_)
   ·rw[List.flatMap_append];show List.Perm _ (_++[]);rw[List.append_nil]
   ·rw[List.flatMap_append,List.flatMap_cons,Jr (by rintro⟨_,h|h⟩<;>(have h:(3:Int)=_:=h;omega))];simp
   ·rw[List.flatMap_append];unfold Nn;by_cases ez:z=c
    ·subst ez;rw[if_pos rfl];show List.Perm _ (_++(pt z (It z x)++[])++_);rw[show pt z (It z x)=[x.bs] from if_pos ⟨rfl,rfl⟩];exact Nl _ _ _
    ·rw[if_neg ez];show List.Perm _ (_++(pt z (It c x)++[])++_);rw[show pt z (It c x)=[] from if_neg fun h=>ez h.1.symm];simp
   ·rw[List.flatMap_append,List.flatMap_cons,E9 (by show(3:Int)≠7;decide)];simp
 ·rw[e2];exact s.keep h0 e1
theorem SI.ask0 (s:SI cs h way last k) (h0:0≤c) (h1:c<cs.length) {line:Int} (hl:0≤line∧line<4294967296) (hN:line.toNat<h.E.length) {w:Bool} {d':CD} (hD:DOk d') (e:d'={ cat cs c with ask:=some (line,w) }) (ha:(cat cs c).ask=none) (hm:mine (cat cs c).giv line=false) (hs:stateOf (cat cs c).L line=0∨(stateOf (cat cs c).L line=1∧w=true)) :
  SI (cs.set c.toNat d') h (way++[D8 c line w hl]) last k:=by
 obtain⟨hdo,hid⟩:=s.ok c h0 h1;have hn:line=((line.toNat:Nat):Int):=by omega
 have hM:(cs.length:Int)≤4:=by have:=s.len;omega
 have hli:=s.li _ hN;unfold LS at hli;have hol:∀y∈[D8 c line w hl],y.line=((line.toNat:Nat):Int):=fun y hy=>by simp at hy;subst hy;exact hn
 have hav:avw (cat cs c).ask line=none:=by rw[ha];rfl
 have hgv:gvw (cat cs c).giv line=none:=by
  cases hg:(cat cs c).giv with
  | none=>rfl
  | some x=>
   rw[hg] at hm;unfold gvw;dsimp only;rw[if_neg (by simpa[mine] using hm)]
 have hk:(D8 c line w hl).kind=if w then 2 else 1:=rfl
 refine s.upd1 h0 h1 hD (by rw[e];exact hid) hN (fun _ _=>rfl) (fun j hj=>?_) (fun y hy=>?_) (fun j hj=>?_) ?_
 ·rw[FC,IL hol (by omega),List.append_nil]
 ·rcases List.mem_append.1 hy with hy|hy
  ·exact s.good y hy
  ·simp at hy;subst hy;refine K6 hN ⟨h0,h1⟩ hM (.inr (.inl ⟨?_,rfl⟩));cases w
   ·exact .inr (.inr (.inl rfl))
   ·exact .inr (.inr (.inr rfl))
 ·rw[e];unfold cvw;dsimp only;rw[ha];congr 1;unfold avw;dsimp only;rw[if_neg (by omega)]
 ·have:=WV hli ⟨h0,h1⟩ (w:=w) (by show avw _ _=_;rw[←hn];exact hav) (by show gvw _ _=_;rw[←hn];exact hgv) (by show stateOf _ _=0∨(stateOf _ _=1∧_);rw[←hn];exact hs);have hcv:cvw d' ((line.toNat:Nat):Int)=⟨(vw cs ((line.toNat:Nat):Int) c).s,(vw cs ((line.toNat:Nat):Int) c).b,(vw cs ((line.toNat:Nat):Int) c).g,some w⟩:=by rw[e];unfold vw cvw;dsimp only;congr 1;unfold avw;dsimp only;rw[if_pos hn]
  rw[hcv,FC,Md hol];refine this.perm ?_ (fun z=>?_) (fun z=>?_) (fun z=>?_)
  ·rw[List.flatMap_append,List.flatMap_cons,show er (D8 c line w hl)=[] from if_neg (by rw[hk];cases w<;>simp)];simp
  ·rw[List.flatMap_append];unfold Nn;by_cases ez:z=c
   ·subst ez;rw[if_pos rfl];show List.Perm _ (_++(gt z (D8 z line w hl)++[])++_);rw[show gt z (D8 z line w hl)=[w] from(if_pos ⟨rfl,by rw[hk];cases w<;>simp⟩).trans (by rw[hk];cases w<;>rfl)];exact Nl _ _ _
   ·rw[if_neg ez];show List.Perm _ (_++(gt z (D8 c line w hl)++[])++_);rw[show gt z (D8 c line w hl)=[] from if_neg fun h=>ez h.1.symm];simp
  ·rw[List.flatMap_append,List.flatMap_cons,JN (by rintro⟨_,h⟩;rw[hk] at h;cases w<;>simp at h)];simp
  ·rw[List.flatMap_append,List.flatMap_cons,E9 (by rw[hk];cases w<;>simp)];simp
theorem SI.ask (s:SI cs h way last k) (h0:0≤c) (h1:c<cs.length) {line:Int} (hl:0≤line∧line<4294967296) (hN:line.toNat<h.E.length) (w:Bool) (pick:Int) :
  SI (cs.set c.toNat (askF (cat cs c) line hl w pick).1) h (way++(askF (cat cs c) line hl w pick).2.1) last k:=by
 obtain⟨hdo,hid⟩:=s.ok c h0 h1;have hD:=hdo.ask line hl w pick
 revert hD
 unfold askF;split
 ·exact fun _=>s.keep h0 rfl
 rename_i hA
 have hask:(cat cs c).ask=none:=by
  cases hx:(cat cs c).ask with
  | none=>rfl
  | some y=>exact absurd (.inl (by rw[hx];rfl)) hA
 have hmi:mine (cat cs c).giv line=false:=by
  cases hx:mine (cat cs c).giv line with
  | false=>rfl
  | true=>exact absurd (.inr hx) hA
 split
 ·exact fun _=>s.keep h0 rfl
 rename_i hS
 have hst:stateOf (cat cs c).L line=0∨(stateOf (cat cs c).L line=1∧w=true):=by
  rcases cG hdo.st line with⟨h,_⟩|⟨h,_⟩
  ·exact .inl h
  ·refine .inr ?_;have hne:stateOf (cat cs c).L line≠0:=by omega
   have h3:w=true:=by
    cases w with
    | true=>rfl
    | false=>exact absurd ⟨hne,.inl rfl⟩ hS
   have h2:¬Ap (stateOf (cat cs c).L line)=true:=fun hw=>hS ⟨hne,.inr hw⟩;rw[wrb] at h2;unfold wr at h2;exact⟨by omega,h3⟩
 split
 ·intro hD;dsimp only;rw[show D8 (cat cs c).id line w hl=D8 c line w hl by rw[hid]];exact s.ask0 h0 h1 hl hN hD rfl hask hmi hst
 ·rename_i x hv;obtain⟨v1,v2,_⟩:=Qi hdo.bd.2.2.1 hv;have hx:x∈(cat cs c).L:=(List.mem_filter.1 v1).1;split
  ·rename_i ho;intro hD;dsimp only at hD⊢;have s1:=s.out h0 h1 hx;have hc1:cat (cs.set c.toNat (outF (cat cs c) x).1) c=(outF (cat cs c) x).1:=by rw[Iz h0 h1,if_pos rfl]
   have hne:x.num≠line:=fun e=>by have:=Lw hdo.uniq hx;rw[e,v2] at this;cases this
   have hs0:stateOf (cat cs c).L line=0:=by unfold stateOf;rw[v2];rfl
   have f:(outF (cat cs c) x).1.ask=none∧mine (outF (cat cs c) x).1.giv line=false∧stateOf (outF (cat cs c) x).1.L line=0:=by
    rcases KK hdo hx with⟨a,e,f⟩|⟨a,b,g,e,f⟩|⟨e1,e2,e3⟩
    ·rw[e];exact⟨hask,hmi,by dsimp only;rw[Dw,hs0];split<;>rfl⟩
    ·rw[e];exact⟨hask,by simp[mine,hne],by dsimp only;rw[Dw,hs0];split<;>rfl⟩
    ·rw[ho] at e3;cases e3
   have s2:=s1.ask0 (c:=c) h0 (by rw[List.length_set];exact h1) hl hN (w:=w) (d':={ (outF (cat cs c) x).1 with ask:=some (line,w) }) hD (by rw[hc1]) (by rw[hc1];exact f.1) (by rw[hc1];exact f.2.1) (by rw[hc1];exact .inl f.2.2);rw[List.set_set,List.append_assoc] at s2;rw[show D8 (cat cs c).id line w hl=D8 c line w hl by rw[hid]];exact s2
  ·exact fun _=>s.keep h0 rfl
theorem S2 {n:Nat} {L:List Ln} {x:Ln} (h:x∈allL n L):x∈L:=by unfold allL at h;obtain⟨i,_,hi⟩:=List.mem_flatMap.1 h;exact(List.mem_filter.1 hi).1
theorem SI.evict (s:SI cs h way last k) (h0:0≤c) (h1:c<cs.length) (pick:Int) :
  SI (cs.set c.toNat (evictF (cat cs c) pick).1) h (way++(evictF (cat cs c) pick).2) last k:=by
 obtain⟨hdo,hid⟩:=s.ok c h0 h1;unfold evictF;split
 ·exact s.keep h0 rfl
 ·rename_i hL;refine s.out h0 h1 (S2 (n:=(cat cs c).n) ?_);have hlen:=Fe hdo.bd.1 (cat cs c).L;have hp:Am pick (cat cs c).L.length<(allL (cat cs c).n (cat cs c).L).length:=by rw[hlen];exact HN _ _ (List.length_pos_iff.2 hL)
  simp[List.getD,hp]
end
theorem cat_nat (cs:List CD) (n:Nat):cat cs (n:Int)=cs.getD n cd0:=by unfold cat;rw[if_pos (by omega)];rfl
section
variable {cs:List CD} {h:HD} {way:List Msg} {last:Nat→B16} {k:Nat} {c:Int}
theorem SI.mono (s:SI cs h way last k) {k':Nat} (hk:k≤k'):SI cs h way last k':=⟨s.len,s.ok,s.hi.mono hk,s.good,s.li,s.q,s.z⟩
end
def EK (x:ER):Nat × Int:=(if x.1=4∨x.1=5∨x.1=11 then 0 else if x.1=6∨x.1=12 then 1 else 2,x.2.1)
theorem VN (m:Msg):Eo m=(er m).map EK:=by
 unfold Eo er;by_cases h:4≤m.kind∧m.kind≤13∧m.kind≠7
 ·rw[if_pos h];obtain hk|hk|hk|hk|hk|hk|hk|hk|hk:m.kind=4∨m.kind=5∨m.kind=6∨m.kind=8∨m.kind=9∨m.kind=10∨m.kind=11∨m.kind=12∨m.kind=13:=by omega
  all_goals simp[hk,EK]
 ·rw[if_neg h]
  (repeat' rw[if_neg (by omega)])
  rfl
theorem TD (n:Int) (way:List Msg):BE n way=((wn n way).flatMap er).map EK:=by
 induction way with
 | nil=>rfl
 | cons m r ih=>
  rw[AZ,FV,ih];unfold rl;split
  ·rw[List.flatMap_cons,List.map_append,VN]
  ·rfl
section
variable {M:Int} {d:Ent} {mem cur:B16} {v:Int→CV} {R:List ER} {G:Int→List Bool} {P:Int→List B16} {A:Int→List Unit}
theorem LI.exp (h:LI M d mem cur v R G P A) (hk:d.busy=true→d.kind=1∨d.kind=2):Exp d (R.map EK):=by
 obtain⟨R',sv,hp,hph,_⟩:=h.ph;refine Exp.perm ?_ (hp.map EK).symm;cases hph with
 | idleO a=>exact .inl ⟨a,rfl⟩
 | idleS a=>exact .inl ⟨a,rfl⟩
 | fwd a b c e=>
  refine .inr (.inr (.inl ⟨a,b,c,e,?_⟩));rcases hk a with h|h<;>simp[EK,h]
 | back a b c e=>exact .inr (.inr (.inl ⟨a,b,c,e,by simp[EK]⟩))
 | drops C a b c k _ nd len w x y=>
  refine .inr (.inr (.inr ⟨a,b,c,w,C.map Prod.fst,?_,nd,by rw[List.length_map];exact len,fun z hz=>?_⟩))
  ·rw[List.map_map,List.map_map];have:(EK ∘ fun x:Int × Bool=>((if x.2 then 12 else 6:Int),x.1,AE))=(Prod.mk 1 ∘ Prod.fst):=by funext x;obtain⟨c,t⟩:=x;cases t<;>simp[EK]
   rw[this]
  ·obtain⟨y,hy,rfl⟩:=List.mem_map.1 hz;exact⟨(x y hy).1,(x y hy).2.1⟩
 | dataO k a b c e f g=>exact .inr (.inl ⟨a,b,by rcases g with⟨h,_⟩|⟨h,_⟩<;>simp[EK,h]⟩)
 | dataS a b=>exact .inr (.inl ⟨a,b,by simp[EK]⟩)
 | doneO a b=>exact .inr (.inl ⟨a,b,by simp[EK]⟩)
 | doneS a b=>exact .inr (.inl ⟨a,b,by simp[EK]⟩)
theorem LI.few (h:LI M d mem cur v R G P A):R.length≤4:=by
 obtain⟨R',sv,hp,hph,_⟩:=h.ph;rw[hp.length_eq];cases hph with
 | drops C a b c k s nd len w x y=>
  rw[List.length_map,←List.length_map Prod.fst];refine HK _ [0,1,2,3] nd fun z hz=>?_;obtain⟨y,hy,rfl⟩:=List.mem_map.1 hz;have:=Cn (x y hy).1;simp;omega
 | _=>simp
theorem LI.quiet (h:LI M d mem cur v [] G P A):d.busy=false:=by
 obtain⟨R',sv,hp,hph,_⟩:=h.ph;have hl:=hp.length_eq;cases hph with
 | idleO a=>exact a
 | idleS a=>exact a
 | drops C a b c k s nd len w x y=>
  rw[List.length_map] at hl;have:C.length=0:=hl.symm;omega
 | _=>simp at hl
theorem LI.asker {k z:Int} {b:B16} (h:LI M d mem cur v ((k,z,b)::R) G P A) (hkd:d.busy=true→d.kind=1∨d.kind=2) (hk:k=4∨k=5∨k=6):∃r,(0≤r∧r<M)∧z≠r∧(v r).a=some (decide (d.kind=2))∧(k=6→d.kind=2):=by
 obtain⟨R',sv,hp,hph,ht⟩:=h.ph;have hin:=MN hp
 have fin:d.busy=true→sv=true→z≠d.asks→(k=6→d.kind=2)→∃r,(0≤r∧r<M)∧z≠r∧(v r).a=some (decide (d.kind=2))∧(k=6→d.kind=2):=by
  intro hb hs hz h6;have hr:=h.ask hb;refine⟨d.asks,hr,hz,?_,h6⟩;have:=(ht _ hr.1 hr.2).ask;unfold Eg at this;rw[if_pos ⟨hs,rfl⟩] at this;cases ha:(v d.asks).a with
  | none=>rw[ha] at this;simp at this
  | some w=>
   rw[ha] at this;have h2:=congrArg List.length this;simp at h2;rw[h2] at this;simp at this;rw[this]
 cases hph with
 | idleO a=>cases hin
 | idleS a=>cases hin
 | fwd a b c e f=>
  simp only[List.mem_singleton,Prod.mk.injEq] at hin;have:=hkd a;exact fin a rfl (by rw[hin.2.1];exact f) (fun h=>by omega)
 | back a b c e f=>simp at hin;omega
 | drops C a b c kk s nd len w x y=>
  obtain⟨q,hq,hq'⟩:=List.mem_map.1 hin;simp only[Prod.mk.injEq] at hq';exact fin a rfl (by rw[←hq'.2.1];exact(x q hq).2.1) fun _=>kk
 | dataO k' a b c e f g=>simp only[List.mem_singleton,Prod.mk.injEq] at hin;omega
 | dataS a=>simp at hin;omega
 | doneO a=>simp at hin;omega
 | doneS a=>simp at hin;omega
end
theorem GM.cases {M:Int} {N:Nat} {m:Msg} (g:GM M N m):(m.dst=4∧(0≤m.src∧m.src<M)∧((1≤m.kind∧m.kind≤3)∨(11≤m.kind∧m.kind≤13)))∨((0≤m.dst∧m.dst<M)∧(4≤m.kind∧m.kind≤10)):=by
 by_cases hd:m.dst=4
 ·exact .inl ⟨hd,KD g hd⟩
 ·rcases g.rng with⟨h,_⟩|⟨_,h⟩
  ·exact absurd h hd
  ·exact .inr h
theorem GM.good {M:Int} {N:Nat} {m:Msg} (g:GM M N m) (hM:M≤4):Ig N m:=by
 refine⟨g.line,?_⟩
 have hb:Cb m.kind=true∨m.bs=AE:=by
  have:=g.chk;unfold Go.Proofs.YtpfijldkkfiooaaGreatDoor.chk at this;split at this
  ·rename_i h;unfold Cd at h;simp at h;exact h.2
  ·cases this
 rcases g.cases with⟨h1,h2,h3|h3⟩|⟨h1,h2⟩
 ·refine .inl ⟨h3,h1,by omega,?_⟩;rcases hb with h|h
  ·unfold Cb at h;simp at h;omega
  ·exact .inr h
 ·refine .inr (.inr ⟨h3,h1,by omega,?_⟩);rcases hb with h|h
  ·unfold Cb at h;simp at h;omega
  ·exact .inr h
 ·exact .inr (.inl ⟨h2,by omega⟩)
theorem Dd {α:Type} (f g:α→Nat) (l:List α):sumF (fun x=>f x+g x) l=sumF f l+sumF g l:=by
 induction l with
 | nil=>rfl
 | cons x r ih=>rw[sumF_cons,sumF_cons,sumF_cons,ih];omega
theorem IE {α:Type} {f:α→Nat} {l:List α} {x:α} (h:x∈l):f x≤sumF f l:=by
 induction l with
 | nil=>cases h
 | cons y r ih=>
  rw[sumF_cons];rcases List.mem_cons.1 h with rfl|h
  ·omega
  ·have:=ih h;omega
def rng (M:Nat):List Int:=(List.range M).map fun i:Nat=>(i:Int)
theorem IJ {M:Nat} {c:Int} (h0:0≤c) (h1:c<M):c∈rng M:=List.mem_map.2 ⟨c.toNat,List.mem_range.2 (by omega),by omega⟩
theorem PR {M:Nat} {c:Int} (h:c∈rng M):0≤c∧c<M:=by obtain⟨i,hi,rfl⟩:=List.mem_map.1 h;have:=List.mem_range.1 hi;omega
theorem P5 (M:Nat):(rng M).length=M:=by simp[rng]
def tc (g:List Bool) (p:List B16) (a:List Unit):Nat:=9*g.length+2*p.length+a.length
theorem OW (g g':List Bool) (p p':List B16) (a a':List Unit):tc (g++g') (p++p') (a++a')=tc g p a+tc g' p' a':=by unfold tc;simp only[List.length_append];omega
theorem NF (g:List Bool) (p:List B16) (a:List Unit):9*g.length≤tc g p a∧2*p.length≤tc g p a∧a.length≤tc g p a:=by unfold tc;omega
theorem U5 {M N:Nat} {m:Msg} (g:GM M N m):cost m≤2*(er m).length+sumF (fun c=>tc (gt c m) (pt c m) (kt c m)) (rng M):=by
 rcases g.cases with⟨h1,h2,h3|h3⟩|⟨h1,h2⟩
 ·have hle:tc (gt m.src m) (pt m.src m) (kt m.src m)≤_:=IE (f:=fun c=>tc (gt c m) (pt c m) (kt c m)) (IJ (M:=M) h2.1 (by omega));by_cases h:m.kind=3
  ·have e:(pt m.src m).length=1:=congrArg List.length (if_pos ⟨rfl,h⟩:pt m.src m=[m.bs]);have:cost m=2:=by unfold cost;rw[if_neg (by omega),if_pos h]
   have ht:=NF (gt m.src m) (pt m.src m) (kt m.src m);omega
  ·have e:(gt m.src m).length=1:=congrArg List.length (if_pos ⟨rfl,by omega⟩:gt m.src m=[decide (m.kind=2)]);have:cost m=9:=by unfold cost;rw[if_pos (by omega)]
   have ht:=NF (gt m.src m) (pt m.src m) (kt m.src m);omega
 ·have e:(er m).length=1:=by unfold er;rw[if_pos (by omega)];rfl
  have:=(Mz h3).1;omega
 ·by_cases h:m.kind=7
  ·have hle:=IE (f:=fun c=>tc (gt c m) (pt c m) (kt c m)) (IJ (M:=M) h1.1 (by omega));have e:(kt m.dst m).length=1:=congrArg List.length (if_pos ⟨rfl,h⟩:kt m.dst m=[()]);have:cost m=1:=by unfold cost;rw[if_neg (by omega),if_neg (by omega),if_neg (by omega),if_pos (by omega)]
   have ht:=NF (gt m.dst m) (pt m.dst m) (kt m.dst m);omega
  ·have e:(er m).length=1:=by unfold er;rw[if_pos (by omega)];rfl
   have:cost m=2:=by unfold cost;rw[if_neg (by omega),if_neg (by omega),if_pos (by omega)]
   omega
theorem Tt {M:Nat} {m:Msg} (h:1≤m.kind∧m.kind≤3) (h2:0≤m.src∧m.src<M):B7 m≤sumF (fun c=>tc (gt c m) (pt c m) []) (rng M):=by
 have hle:tc (gt m.src m) (pt m.src m) []≤_:=IE (f:=fun c=>tc (gt c m) (pt c m) []) (IJ (M:=M) h2.1 (by omega));unfold B7;by_cases h:m.kind=3
 ·have e:(pt m.src m).length=1:=congrArg List.length (if_pos ⟨rfl,h⟩:pt m.src m=[m.bs]);rw[if_pos h];have ht:=NF (gt m.src m) (pt m.src m) [];omega
 ·have e:(gt m.src m).length=1:=congrArg List.length (if_pos ⟨rfl,by omega⟩:gt m.src m=[decide (m.kind=2)]);rw[if_neg h];have ht:=NF (gt m.src m) (pt m.src m) [];omega
theorem MB {M N:Nat}:∀(l:List Msg),(∀m∈l,GM M N m)→sumF cost l≤2*(l.flatMap er).length+sumF (fun c=>tc (l.flatMap (gt c)) (l.flatMap (pt c)) (l.flatMap (kt c))) (rng M)
 | [],_=>by rw[sumF_nil];omega
 | m::r,h=>by
  have h1:=U5 (h m (List.mem_cons_self ..));have h2:=MB r fun x hx=>h x (List.mem_cons_of_mem _ hx);have e:(fun c=>tc ((m::r).flatMap (gt c)) ((m::r).flatMap (pt c)) ((m::r).flatMap (kt c)))=fun c=>tc (gt c m) (pt c m) (kt c m)+tc (r.flatMap (gt c)) (r.flatMap (pt c)) (r.flatMap (kt c)):=by funext c;rw[List.flatMap_cons,List.flatMap_cons,List.flatMap_cons,OW]
  rw[e,Dd,sumF_cons,List.flatMap_cons,List.length_append];omega
theorem HO {M:Nat}:∀(l:List Msg),(∀m∈l,(1≤m.kind∧m.kind≤3)∧(0≤m.src∧m.src<M))→sumF B7 l≤sumF (fun c=>tc (l.flatMap (gt c)) (l.flatMap (pt c)) []) (rng M)
 | [],_=>by rw[sumF_nil];omega
 | m::r,h=>by
  obtain⟨a,b⟩:=h m (List.mem_cons_self ..);have h1:=Tt a b;have h2:=HO r fun x hx=>h x (List.mem_cons_of_mem _ hx);have e:(fun c=>tc ((m::r).flatMap (gt c)) ((m::r).flatMap (pt c)) [])=fun c=>tc (gt c m) (pt c m) []+tc (r.flatMap (gt c)) (r.flatMap (pt c)) []:=by funext c;rw[List.flatMap_cons,List.flatMap_cons];exact OW _ _ _ _ [] []
  rw[e,Dd,sumF_cons];omega
section
variable {cs:List CD} {h:HD} {way:List Msg} {last:Nat→B16} {k:Nat} {c:Int}
theorem SI.kd (s:SI cs h way last k) {n:Nat} (hn:n<h.E.length):(Aa h.E n).busy=true→(Aa h.E n).kind=1∨(Aa h.E n).kind=2:=fun hb=>by have:=(s.hi.2 n hn).1.ok.kind hb;omega
theorem SI.sv (s:SI cs h way last k):Sv (k+(sumF cost way+sumF ecost h.E)) (0+(sumF pend way+sumF CW h.E)) k h way 0:=by
 have hM:(cs.length:Int)≤4:=by have:=s.len;omega
 refine⟨s.hi,fun m hm=>(s.good m hm).good hM,fun n hn=>?_,Nat.le_refl _,rfl⟩;rw[TD];have hl:=s.li n hn;unfold LS at hl;exact hl.exp (s.kd hn)
end
section
variable {cs:List CD} {h:HD} {way rest:List Msg} {last:Nat→B16} {k:Nat} {m:Msg} {line c:Int}
theorem SI.eff (s:SI cs h way last k) (hp:way.Perm (m::rest)) (hd:m.dst≠4) :
  (∀n:Int,n≠m.line→cvw (takeF (cat cs m.dst) m).1 n=cvw (cat cs m.dst) n) ∧
   ((avw (cat cs m.dst).ask m.line=some (decide (m.kind=10))∧(cvw (takeF (cat cs m.dst) m).1 m.line).s≠0∧(cvw (takeF (cat cs m.dst) m).1 m.line).a=none) ∨
    (∃(r:Int) (w:Bool),(0≤r∧r<cs.length)∧m.dst≠r∧(vw cs m.line r).a=some w∧(m.kind=6→w=true)∧(cvw (takeF (cat cs m.dst) m).1 m.line).a=(cvw (cat cs m.dst) m.line).a) ∨
    ((cvw (takeF (cat cs m.dst) m).1 m.line).a=(cvw (cat cs m.dst) m.line).a∧(cvw (takeF (cat cs m.dst) m).1 m.line).s=(cvw (cat cs m.dst) m.line).s)):=by
 have hg:=s.good m (hp.symm.subset (List.mem_cons_self ..));obtain⟨hrng,hk,hln,hL⟩:=s.atl hp hd;have hmn:=m.hn;have hline:m.line=((m.line.toNat:Nat):Int):=by omega
 obtain⟨e1,e2,e3⟩:=s.hi.2 _ hln;obtain⟨hdo,hid⟩:=s.ok m.dst hrng.1 hrng.2;have hto:m.dst=(cat cs m.dst).id:=hid.symm;have hkd:=e1.ok.kind;by_cases h8:m.kind=8∨m.kind=9∨m.kind=10
 ·have hkt:∀c,kt c m=[]:=fun c=>E9 (by omega);obtain⟨_,ha,hgn,hbs,hli⟩:=Pp (m:=m) (hL.perm (List.Perm.refl _) (fun c=>List.Perm.refl _) (fun c=>List.Perm.refl _) (fun c=>by rw[hkt])) h8 hkd rfl _ rfl;have ha':avw (cat cs m.dst).ask m.line=some (decide (m.kind=10)):=by rw[hline];exact ha
  obtain⟨t1,t2⟩:=K1 hdo hg.chk hto h8 ha';rw[t1];refine⟨fun n hn=>by rw[t2,if_neg hn],.inl ⟨ha',?_,?_⟩⟩
  ·rw[t2,if_pos rfl];show(if m.kind=8 then(1:Int) else 2)≠0;split<;>decide
  ·rw[t2,if_pos rfl]
 have asker:m.kind=4∨m.kind=5∨m.kind=6→∃(r:Int) (w:Bool),(0≤r∧r<cs.length)∧m.dst≠r∧(vw cs m.line r).a=some w∧(m.kind=6→w=true):=by intro h;have he:er m=[(m.kind,m.dst,AE)]:=Fh rfl (by omega) (if_pos (by omega)) (if_neg (by omega));rw[he] at hL;obtain⟨r,a,b,e,f⟩:=hL.asker (fun hb=>by have:=hkd hb;omega) h;exact⟨r,_,a,b,by rw[hline];exact e,fun h6=>by simp[f h6]⟩
 by_cases h4:m.kind=4∨m.kind=5
 ·have hkt:∀c,kt c m=[]:=fun c=>E9 (by omega);obtain⟨r,w,a1,a2,a3,a4⟩:=asker (by omega);obtain⟨_,hsh⟩:=NA (m:=m) (hL.perm (List.Perm.refl _) (fun c=>List.Perm.refl _) (fun c=>List.Perm.refl _) (fun c=>by rw[hkt])) h4 hkd rfl AE;rcases hsh with⟨hgv,hli⟩|⟨hgn,hw,hbc,hli⟩
  ·have hgv':gvw (cat cs m.dst).giv m.line=some (last m.line.toNat):=by rw[hline];exact hgv
   rw[Hd hg.chk hto h4 hgv'];exact⟨fun n _=>rfl,.inr (.inr ⟨rfl,rfl⟩)⟩
  ·have hgn':gvw (cat cs m.dst).giv m.line=none:=by rw[hline];exact hgn
   have hw':wr (stateOf (cat cs m.dst).L m.line):=by rw[hline];exact hw
   obtain⟨L',t1,t2⟩:=He hg.chk hto h4 hgn' hw';rw[t1];exact⟨fun n hn=>by rw[t2,if_neg hn],.inr (.inl ⟨r,w,a1,a2,a3,a4,by rw[t2,if_pos rfl];rfl⟩)⟩
 by_cases h6:m.kind=6
 ·have hkt:∀c,kt c m=[]:=fun c=>E9 (by omega);obtain⟨r,w,a1,a2,a3,a4⟩:=asker (by omega);obtain⟨_,hnw,hli⟩:=Pt (m:=m) (hL.perm (List.Perm.refl _) (fun c=>List.Perm.refl _) (fun c=>List.Perm.refl _) (fun c=>by rw[hkt])) h6 hkd rfl AE;have hnw':¬wr (stateOf (cat cs m.dst).L m.line):=by rw[hline];exact hnw
  obtain⟨t1,t2⟩:=K2 hg.chk hto h6 hnw';rw[t1];exact⟨fun n hn=>by rw[t2,if_neg hn],.inr (.inl ⟨r,w,a1,a2,a3,a4,by rw[t2,if_pos rfl];rfl⟩)⟩
 ·have h7:m.kind=7:=by omega
  have her:er m=[]:=by unfold er;rw[if_neg (by omega)]
  rw[her,List.nil_append] at hL;have hk1:kt m.dst m=[()]:=by unfold kt;rw[if_pos ⟨rfl,h7⟩]
  obtain⟨hgn,hli⟩:=Mm hL hrng (l:=(wn m.line.toNat rest).flatMap (kt m.dst)) (by show kt m.dst m++_=_;rw[hk1];rfl);have hgn':gvw (cat cs m.dst).giv m.line≠none:=by rw[hline];exact hgn
  obtain⟨t1,t2⟩:=JX hg.chk hto h7 hgn';rw[t1];exact⟨fun n hn=>by rw[t2,if_neg hn],.inr (.inr ⟨by rw[t2,if_pos rfl];rfl,by rw[t2,if_pos rfl];rfl⟩)⟩
theorem SI.quiet (s:SI cs h [] last k) {z:Int} (z0:0≤z) (z1:z<cs.length) (n:Int):(vw cs n z).a=none∧(vw cs n z).g=none:=by
 by_cases hn:0≤n∧n<h.E.length
 ·have hN:n.toNat<h.E.length:=by omega
  have hl:=s.li _ hN;unfold LS at hl;rw[show((n.toNat:Nat):Int)=n by omega] at hl;have hb:=hl.quiet;have hq:=(s.hi.2 _ hN).2.1 hb;have t:=(hl.idle hb).2.2 z z0 z1;rw[hq] at t;have ha:=t.ask;unfold Eg at ha;rw[if_neg (by simp)] at ha;refine⟨?_,?_⟩
  ·cases hx:(vw cs n z).a with
   | none=>rfl
   | some w=>rw[hx] at ha;cases ha
  ·rcases t.put with⟨a,_⟩|⟨b,_,⟨a,_⟩|⟨_,a⟩⟩
   ·exact a
   ·cases a
   ·cases a
 ·have:=s.z z z0 z1 n hn;exact this.2
theorem asks {d:CD} (ha:d.ask=none) (hg:d.giv=none) {line:Int} (hl:0≤line∧line<4294967296) (hs:stateOf d.L line=0) (pick:Int):(askF d line hl false pick).1.ask=some (line,false):=by
 unfold askF;rw[if_neg (by rw[ha,hg];simp[mine]),if_neg (by rw[hs];simp)];split
 ·rfl
 ·rename_i x hv
  have:(outF d x).2.2=true:=by
   unfold outF;split
   ·rfl
   ·rw[hg]
  rw[if_pos this]
end
def cs0 (many n:Nat) (ways:Int):List CD:=(List.range many).map fun i:Nat=>⟨i,n,ways,[],none,none⟩
theorem Xq {many n:Nat} {ways:Int} {i:Nat} (h:i<many):(cs0 many n ways).getD i cd0=⟨i,n,ways,[],none,none⟩:=by simp[cs0,List.getD,h]
theorem SI.init {many n:Nat} {ways:Int} (hm:1≤many∧many≤4) (hn:0<n∧n≤64∧1≤ways∧ways≤8) (bs:List Int):SI (cs0 many n ways) (home0 bs) [] (fun n=>Ah bs n) 0:=by
 have hlen:(cs0 many n ways).length=many:=by simp[cs0]
 have hat:∀c:Int,0≤c→c<many→cat (cs0 many n ways) c=⟨c,n,ways,[],none,none⟩:=fun c h0 h1=>by have:=cat_nat (cs0 many n ways) c.toNat;rw[Xq (by omega),show((c.toNat:Nat):Int)=c by omega] at this;exact this
 have hv:∀c:Int,0≤c→c<many→∀n':Int,vw (cs0 many n ways) n' c=⟨0,AE,none,none⟩:=fun c h0 h1 n'=>by unfold vw;rw[hat c h0 h1];rfl
 have he:∀i,Aa (home0 bs).E i=ent0:=fun i=>Kt _ _;refine⟨by rw[hlen];exact hm,fun c h0 h1=>?_,HI.home0 bs,fun m hm=>(by cases hm),fun i hi=>?_,fun i hi m hm=>?_,fun c h0 h1 n' _=>?_⟩
 ·rw[hlen] at h1;rw[hat c h0 h1];exact⟨DOk.new (by omega) hn,rfl⟩
 ·unfold LS;rw[he,hlen];refine⟨⟨[],false,List.Perm.refl _,.idleS rfl (by decide) ⟨rfl,fun c h0 h1 => .inl (by rw[hv c h0 h1])⟩,fun c h0 h1=>?_⟩,fun c h=>(Fy h).elim,by show(-1:Int)<_;omega,fun h=>by cases h⟩;rw[hv c h0 h1];exact⟨rfl,.inl ⟨rfl,rfl,rfl⟩,fun h=>absurd rfl h,fun w h => .inl rfl,.inl rfl⟩
 ·rw[he] at hm;cases hm
 ·rw[hlen] at h1;have:=hv c h0 h1 n';unfold vw at this;rw[this];exact⟨rfl,rfl,rfl⟩
end Go.Proofs.YtpfijldkkfiooaaGreatDoor.Ch
namespace Go.Proofs.YtpfijldkkfiooaaGreatDoor
open Go Go.RowKit
set_option linter.unusedVariables false
theorem Mx (L:List Ln) (n:Int):Ch.stateOf L n=stateOf L n:=rfl
theorem R3 (d:CD) (x:Ln):Ch.outF d x=outF d x:=by unfold Ch.outF outF;split<;>rfl
theorem Pj (g:Option Ln) (l:Int):Ch.mine g l=mine g l:=by unfold Ch.mine mine;cases g<;>rfl
theorem Xg (d:CD) (line:Int) (h:U32 line) (wr:Bool) (pick:Int):Ch.askF d line h wr pick=askF d line h wr pick:=by
 unfold Ch.askF askF;simp only[Pj,Mx];split
 ·rfl
 ·split
  ·rfl
  ·cases HT d.n d.ways d.L line pick with
   | none=>rfl
   | some x=>simp only[R3];rfl
theorem RZ (d:CD) (pick:Int):Ch.evictF d pick=evictF d pick:=by unfold Ch.evictF evictF;simp only[R3]
theorem Xh (d:CD) (m:Msg):Ch.dataOk d m=dataOk d m:=by unfold Ch.dataOk dataOk;cases d.ask<;>rfl
theorem Pm (d:CD) (m:Msg):Ch.takeF d m=takeF d m:=by
 unfold Ch.takeF takeF;simp only[Pj,Mx,Xh];split
 ·rfl
 ·split
  ·unfold CU;simp only[Bool.and_eq_true,decide_eq_true_eq];rfl
  ·split
   ·have hb:Ch.takeF.backF d m=(match (if Ap (stateOf d.L m.line)=true then some (d.setL (if m.kind=4 then putL d.n d.ways d.L ((Cj d.L m.line).st 1) else dropL d.L (Cj d.L m.line).num),(Cj d.L m.line).bs) else none) with|some (d',bs)=>(d',[mkM 11 d.id 4 m.line bs m.hn],0)|none=>(d,[],220)):=by unfold Ch.takeF.backF;simp only[Mx];split<;>rfl
    unfold D9 mine;cases hg:d.giv with
    | none=>exact hb
    | some x=>
     by_cases hx:x.num=m.line
     ·simp[hx]
     ·simp only[hx,if_false,decide_false,Bool.false_eq_true];exact hb
   ·rfl
theorem Pk (sh:Sh) (r:Int):∀k,Ch.othK sh r k=othK sh r k
 | 0=>rfl
 | k+1=>by unfold Ch.othK othK;rw[Pk sh r k]
theorem Xi (sh:Sh) (r:Int):Ch.othersF sh r=othersF sh r:=Pk sh r 4
theorem Ja {bs:List Int} {n:Int} (h:n.toNat<bs.length/16) (b:B16):Ch.setLn bs n b=setLn bs n b:=by unfold Ch.setLn;rw[if_neg (show¬bs.length/16≤n.toNat by omega)]
theorem Mv {bs:List Int} {m:Msg} (h:m.line.toNat<bs.length/16) (d:Ent):Ch.beginF bs d m=beginF bs d m:=by unfold Ch.beginF beginF;simp only[Xi,Ja h];rfl
theorem Mw:∀(q:List Msg) (bs:List Int) (d:Ent),(∀m∈q,m.line.toNat<bs.length/16)→Ch.drainF q bs d=drainF q bs d
 | [],bs,d,h=>rfl
 | m::r,bs,d,h=>by
  have e:=Mv (h m (.head _)) (d.setQ r);have hl:(beginF bs (d.setQ r) m).2.1.length=bs.length:=by rw[←e];exact Ch.begin_bs
  have i:=Mw r (beginF bs (d.setQ r) m).2.1 (beginF bs (d.setQ r) m).1 fun y hy=>by rw[hl];exact h y (.tail _ hy)
  have e1:Ch.drainF (m::r) bs d=if d.busy then(d.setQ (m::r),bs,[]) else((Ch.drainF r (Ch.beginF bs (d.setQ r) m).2.1 (Ch.beginF bs (d.setQ r) m).1).1,(Ch.drainF r (Ch.beginF bs (d.setQ r) m).2.1 (Ch.beginF bs (d.setQ r) m).1).2.1,(Ch.beginF bs (d.setQ r) m).2.2++(Ch.drainF r (Ch.beginF bs (d.setQ r) m).2.1 (Ch.beginF bs (d.setQ r) m).1).2.2):=Ch.drain_cons
  rw[e1,e,i];exact Eq.refl (drainF (m::r) bs d)
section
variable {d:Ent} {m:Msg}
theorem VZ (hk:m.kind=11):Ch.strayF d m = !DG d m:=by by_cases a:d.waits<1<;>by_cases b:d.o=m.src<;>cases c:d.busy<;>simp[Ch.strayF,DG,hk,a,b,c]<;>omega
theorem V0 (hk:m.kind=12):Ch.strayF d m = !Ev d m:=by
 have e1:decide (0<d.waits) = !decide (d.waits<1):=by
  by_cases a:d.waits<1
  ·rw[dT a,dF (show¬0<d.waits by omega)];rfl
  ·rw[dF a,dT (show 0<d.waits by omega)];rfl
 have e2:decide (d.o<0) = !decide (0≤d.o):=by
  by_cases a:d.o<0
  ·rw[dT a,dF (show¬0≤d.o by omega)];rfl
  ·rw[dF a,dT (show 0≤d.o by omega)];rfl
 unfold Ch.strayF Ev;rw[hk,e1,e2];simp only[ne_eq,decide_not];cases d.busy<;>cases decide (d.waits<1)<;>cases decide (0≤d.o)<;>cases d.sh.get m.src<;>cases decide (m.src=d.asks)<;>rfl
theorem V1 (hk:m.kind=13):Ch.strayF d m = !DI d m:=by cases c:d.busy<;>cases f:d.told<;>simp[Ch.strayF,DI,hk,c,f]
end
theorem R4 {k:Nat} {h:HD} (hi:Ch.HI k h) (m:Msg):Ch.takeH h m=takeH h m:=by
 have hmn:=m.hn;unfold Ch.takeH takeH;by_cases h0:chk m≠0∨m.dst≠4
 ·rw[if_pos h0,if_pos h0]
 rw[if_neg h0,if_neg h0];by_cases h1:(h.E.length:Int)≤m.line
 ·rw[if_pos h1,if_pos h1]
 rw[if_neg h1,if_neg h1];have h2:chk m=0:=Decidable.not_not.1 fun h=>h0 (.inl h);have h3:m.dst=4:=Decidable.not_not.1 fun h=>h0 (.inr h);obtain⟨hh,hs⟩:=Ch.chk_home h2 h3;unfold CH at hh;simp only[Bool.or_eq_true,decide_eq_true_eq] at hh;have hn:m.line.toNat<h.E.length:=by omega
 have hb:m.line.toNat<h.bs.length/16:=by rw[←hi.1];exact hn
 obtain⟨e1,e2,e3⟩:=hi.2 _ hn;have hq:∀y∈(Aa h.E m.line.toNat).q,y.line.toNat<h.bs.length/16:=fun y hy=>by have:=(e1.ok.rest y hy).line;omega
 dsimp only;rw[show h.E.getD m.line.toNat ent0=Aa h.E m.line.toNat from rfl];generalize Aa h.E m.line.toNat=d at *;by_cases hk:m.kind≤3
 ·rw[if_pos hk,if_neg (show¬m.kind=11 by omega),if_neg (show¬m.kind=12 by omega),if_neg (show¬m.kind=13 by omega)];unfold DM;by_cases hz:d.busy=true
  ·rw[if_pos hz,if_pos hz];rfl
  ·rw[if_neg hz,if_neg hz,Mv hb];rfl
 ·rw[if_neg hk];obtain hk'|hk'|hk':m.kind=11∨m.kind=12∨m.kind=13:=by omega
  ·rw[if_pos hk',VZ hk'];cases hok:DG d m with
   | false=>rfl
   | true=>
    have hbz:d.busy=true:=by unfold DG at hok;simp only[Bool.and_eq_true] at hok;exact hok.1.1
    show(({ bs:=(Ch.otherF h.bs d m).2.1,E:=h.E.set m.line.toNat (Ch.otherF h.bs d m).1 }:HD),(Ch.otherF h.bs d m).2.2,(0:Int))=putH h m (C2 h.bs d m);by_cases hk1:d.kind=1
    ·rw[Ch.other_b1 hk' hk1,Ja hb,show C2 h.bs d m=((((Cr (d.setW 0) (-1)).setS ((sh0.set m.src true).set d.asks true))).setT true,setLn h.bs m.line m.bs,[Af m 8 d.asks (Ah (setLn h.bs m.line m.bs) m.line)]) from if_neg (by omega)];rfl
    ·have hk2:d.kind=2:=by have:=e1.ok.kind hbz;omega
     rw[Ch.other_b2 hk' hk1,Ja hb,show C2 h.bs d m=(FE (d.setW 0),setLn h.bs m.line m.bs,[Af m 10 d.asks (Ah (setLn h.bs m.line m.bs) m.line)]) from if_pos hk2];rfl
  ·rw[if_neg (show¬m.kind=11 by omega),if_pos hk',V0 hk'];cases hok:Ev d m with
   | false=>rfl
   | true=>
    show(({ bs:=(Ch.otherF h.bs d m).2.1,E:=h.E.set m.line.toNat (Ch.otherF h.bs d m).1 }:HD),(Ch.otherF h.bs d m).2.2,(0:Int))=putH h m (ES h.bs d m);by_cases hw:d.waits=1
    ·rw[Ch.other_a1 hk' hw,show ES h.bs d m=(FE ((d.setS (d.sh.set m.src false)).setW (d.waits-1)),h.bs,[Af m 10 d.asks (Ah h.bs m.line)]) from if_pos hw,show d.waits-1=0 by omega];rfl
    ·rw[Ch.other_a2 hk' hw,show ES h.bs d m=((d.setS (d.sh.set m.src false)).setW (d.waits-1),h.bs,[]) from if_neg hw];rfl
  ·rw[if_neg (show¬m.kind=11 by omega),if_neg (show¬m.kind=12 by omega),if_pos hk',V1 hk'];cases hok:DI d m with
   | false=>rfl
   | true=>
    have ht:d.told=true:=by unfold DI at hok;simp only[Bool.and_eq_true] at hok;exact hok.1.2
    have hw:=e1.ok.told ht;have hf:({ d with busy:=false,asks:=0,kind:=0,waits:=0,told:=false }:Ent)=d.fre:=by unfold Ent.fre;rw[hw]
    show(({ bs:=(Ch.otherF h.bs d m).2.1,E:=h.E.set m.line.toNat (Ch.otherF h.bs d m).1 }:HD),(Ch.otherF h.bs d m).2.2,(0:Int))=putH h m (drainF d.q h.bs d.fre);rw[Ch.other_d hk',hf,Mw _ _ _ hq];rfl
def Rg (bs:List Int):Prop:=∀a∈bs,0≤a∧a<256
section
variable {bs:List Int} {d:Ent} {m:Msg}
theorem Rg.set (h:Rg bs) (n:Int) (b:B16):Rg (Ch.setLn bs n b):=by
 unfold Ch.setLn;split
 ·exact h
 ·unfold setLn setF;intro a ha;rcases List.mem_append.1 ha with ha|ha
  ·rcases List.mem_append.1 ha with ha|ha
   ·exact h a (List.mem_of_mem_take ha)
   ·exact b.2.2 a ha
  ·exact h a (List.mem_of_mem_drop ha)
theorem Rg.begin (h:Rg bs):Rg (Ch.beginF bs d m).2.1:=by
 unfold Ch.beginF;dsimp only;split
 ·show Rg (if d.o=m.src then Ch.setLn bs m.line m.bs else bs);split
  ·exact h.set _ _
  ·exact h
 ·split
  ·exact h
  ·split
   ·split<;>exact h
   ·split<;>exact h
theorem Rg.drain:∀(q:List Msg) (bs:List Int) (d:Ent),Rg bs→Rg (Ch.drainF q bs d).2.1
 | [],bs,d,h=>h
 | m::r,bs,d,h=>by
  unfold Ch.drainF;split
  ·exact h
  ·dsimp only;exact Rg.drain r _ _ h.begin
theorem Rg.other (h:Rg bs):Rg (Ch.otherF bs d m).2.1:=by
 unfold Ch.otherF;split
 ·exact Rg.drain _ _ _ h
 ·split
  ·dsimp only;split<;>exact h.set _ _
  ·split<;>exact h
theorem Rg.take {h:HD} (hb:Rg h.bs) (m:Msg):Rg (Ch.takeH h m).1.bs∧(Ch.takeH h m).1.bs.length=h.bs.length:=by
 rcases Ch.take_cases h m with⟨e,he,_⟩|⟨_,_,_,hn,hmn,x,hx,hc⟩
 ·rw[he];exact⟨hb,rfl⟩
 ·rw[hx];rcases hc with⟨_,_,_,rfl⟩|⟨_,_,_,rfl⟩|⟨_,_,rfl⟩
  ·exact⟨hb,rfl⟩
  ·exact⟨hb.begin,Ch.begin_bs⟩
  ·exact⟨hb.other,Ch.other_bs⟩
end
end Go.Proofs.YtpfijldkkfiooaaGreatDoor
namespace Go.Proofs.YtpfijldkkfiooaaGreatDoor.Ch
open Go Go.RowKit
set_option linter.unusedVariables false
section
variable {M:Int} {d:Ent} {mem cur:B16} {v:Int→CV} {R:List ER} {G:Int→List Bool} {P:Int→List B16} {A:Int→List Unit}
theorem LI.nine (h:LI M d mem cur v R G P A) {c:Int} (h0:0≤c) (h1:c<M):tc (G c) (P c) (A c)≤9:=by
 obtain⟨R',sv,hp,hph,ht⟩:=h.ph;have t:=ht c h0 h1;have e:=congrArg List.length t.ask;rw[List.length_append] at e;unfold tc;rcases t.put with⟨_,a,b⟩|⟨b,hb,hab⟩
 ·rw[a,b];have e2:(v c).a.toList.length≤1:=by cases(v c).a<;>simp
  simp only[List.length_nil];omega
 ·have ha:=(t.giv (by rw[hb];simp)).2;have e2:(v c).a.toList.length=0:=by rw[ha];rfl
  rcases hab with⟨a1,a2⟩|⟨a1,a2⟩
  ·rw[a1,a2];simp only[List.length_nil,List.length_cons];omega
  ·rw[a1,a2];simp only[List.length_nil,List.length_cons];omega
end
theorem Ly {α:Type} {f:α→Nat}:∀{l:List α},(∀x∈l,1≤f x)→l.length≤sumF f l
 | [],_=>Nat.le_refl _
 | x::r,h=>by have h1:=h x (List.mem_cons_self ..);have h2:=Ly (l:=r) fun y hy=>h y (List.mem_cons_of_mem _ hy);rw[sumF_cons,List.length_cons];omega
theorem L6 (c k:Nat):∀N,sumF (fun n:Nat=>if k=n then c else 0) (List.range N)=if k<N then c else 0
 | 0=>by rw[if_neg (show¬k<0 by omega)];rfl
 | N+1=>by
  rw[List.range_succ,sumF_app,L6 c k N,sumF_cons,sumF_nil];by_cases h:k=N
  ·rw[if_neg (show¬k<N by omega),if_pos h,if_pos (show k<N+1 by omega)];omega
  ·by_cases h2:k<N
   ·rw[if_pos h2,if_neg h,if_pos (show k<N+1 by omega)];omega
   ·rw[if_neg h2,if_neg h,if_neg (show¬k<N+1 by omega)]
theorem Qk:∀(N:Nat) (l:List Msg),(∀m∈l,m.line.toNat<N)→sumF cost l=sumF (fun n:Nat=>sumF cost (wn n l)) (List.range N)
 | N,[],_=>by have:sumF (fun n:Nat=>sumF cost (wn n [])) (List.range N)=0*(List.range N).length:=FSx fun n _=>rfl;rw[this,Nat.zero_mul];rfl
 | N,m::r,h=>by
  have h1:=h m (List.mem_cons_self ..);have h2:=Qk N r fun x hx=>h x (List.mem_cons_of_mem _ hx);have hm:=m.hn
  have e:(fun n:Nat=>sumF cost (wn n (m::r)))=fun n:Nat=>(if m.line.toNat=n then cost m else 0)+sumF cost (wn n r):=by
   funext n;rw[FV];by_cases hn:m.line=(n:Int)
   ·rw[if_pos hn,if_pos (show m.line.toNat=n by omega),sumF_cons]
   ·rw[if_neg hn,if_neg (show¬m.line.toNat=n by omega),Nat.zero_add]
  rw[e,Dd,L6,if_pos h1,sumF_cons,h2]
theorem Sn (f:Ent→Nat) (E:List Ent):sumF f E=sumF (fun n:Nat=>f (Aa E n)) (List.range E.length):=by
 have e:(List.range E.length).map (fun n=>Aa E n)=E:=by refine List.ext_getElem (by simp) fun i h1 h2=>?_;simp[Aa,List.getD,h2]
 have e2:sumF f ((List.range E.length).map fun n=>Aa E n)=sumF (fun n:Nat=>f (Aa E n)) (List.range E.length):=by unfold sumF;rw[List.map_map];rfl
 rw[←e2,e]
section
variable {cs:List CD} {h:HD} {way:List Msg} {last:Nat→B16} {k:Nat}
theorem SI.qlen (s:SI cs h way last k) {n:Nat} (hn:n<h.E.length):(Aa h.E n).q.length≤36:=by
 have hl:=s.li n hn;unfold LS at hl;have h2:=HO (M:=cs.length) (Aa h.E n).q fun m hm=>by have h3:=(s.hi.2 n hn).1.ok.rest m hm;exact⟨h3.kind,h3.src.1,by have:=s.q n hn m hm;omega⟩
 have h3:(Aa h.E n).q.length≤sumF B7 (Aa h.E n).q:=Ly fun m _=>by unfold B7;split<;>omega
 have h4:sumF (fun c=>tc ((Aa h.E n).q.flatMap (gt c)) ((Aa h.E n).q.flatMap (pt c)) []) (rng cs.length)≤9*(rng cs.length).length:=by refine sumF_le fun c hc=>?_;have hc:=PR hc;have h9:=hl.nine (c:=c) hc.1 hc.2;unfold tc at h9⊢;simp only[List.length_append,List.length_nil] at h9⊢;omega
 rw[P5] at h4;have:=s.len;omega
theorem SI.norm (s:SI cs h way last k):SI cs h way last 36:=⟨s.len,s.ok,⟨s.hi.1,fun n hn=>⟨(s.hi.2 n hn).1,(s.hi.2 n hn).2.1,s.qlen hn⟩⟩,s.good,s.li,s.q,s.z⟩
end
end Go.Proofs.YtpfijldkkfiooaaGreatDoor.Ch
namespace Go.Proofs.YtpfijldkkfiooaaGreatDoor
open Go Go.RowKit
set_option linter.unusedVariables false
theorem KV:∀(ms q:List Msg),(∀m∈ms,chk m=0)→q.length+ms.length≤1024→Bf 1024 q ms=q++ms
 | [],q,_,_=>(List.append_nil q).symm
 | m::r,q,h,hl=>by
  rw[List.length_cons] at hl;have e:Fb 1024 q m=(q++[m],0):=by unfold Fb;rw[if_neg (by rw[h m (.head _)];decide),if_neg (show¬(1024:Int)≤q.length by omega)]
  show Bf 1024 (Fb 1024 q m).1 r=_;rw[e,KV r (q++[m]) (fun y hy=>h y (.tail _ hy)) (by rw[List.length_append,List.length_singleton];omega),List.append_assoc];rfl
theorem Fg {D:List CD} {i:Nat} {d:CD} (h:D[i]? = some d):Ch.cat D (i:Int)=d:=by rw[Ch.cat_nat];simp[List.getD,h]
theorem Pc {D:List CD} {i:Nat} {d:CD} (h:D[i]? = some d):(i:Int)<D.length:=by have:=(List.getElem?_eq_some_iff.1 h).1;omega
theorem U2 {D:List CD} {c:Int} (h0:0≤c) (h1:c<D.length):D[c.toNat]? = some (Ch.cat D c):=by
 have h2:c.toNat<D.length:=by omega
 unfold Ch.cat;rw[if_pos h0];simp[List.getD,h2]
theorem LX {D:List CD} {i:Nat} {d:CD} (h:D[i]? = some d):D.set i d=D:=by have:=Ch.set_cat (cs:=D) (c:=(i:Int)) (by omega);rwa[Fg h,Int.toNat_natCast] at this
theorem DOk.wr {d:CD} (h:Ch.DOk d) {x:Ln} (hx:AI d.L x.num≠none) (he:Cu d.n d.ways d.L x=0):Ch.DOk (d.setL (putL d.n d.ways d.L x)):=
 ⟨h.id,h.bd,h.uniq.putL,h.fits.putL _,fun l wr hl=>by
  show Ch.HasRoom d.n d.ways (putL d.n d.ways d.L x) l;rw[Ch.putL_there hx he]
  exact(h.room l wr hl).repl hx,h.st.putL _⟩
section
variable {D:List CD} {h:HD} {q rest:List Msg} {last:Nat→B16} {k i:Nat} {d:CD} {x:Msg}
theorem Yp (s:Ch.SI D h q last k) (hi:D[i]? = some d) {line:Int} (hl:U32 line) (hN:line.toNat<h.E.length) (wr:Bool) (pick:Int):Ch.SI (D.set i (askF d line hl wr pick).1) h (q++(askF d line hl wr pick).2.1) last k:=by have:=s.ask (c:=(i:Int)) (by omega) (Pc hi) hl hN wr pick;rwa[Fg hi,Xg,Int.toNat_natCast] at this
theorem TS (s:Ch.SI D h q last k) (hi:D[i]? = some d) (pick:Int):Ch.SI (D.set i (evictF d pick).1) h (q++(evictF d pick).2) last k:=by have:=s.evict (c:=(i:Int)) (by omega) (Pc hi) pick;rwa[Fg hi,RZ,Int.toNat_natCast] at this
theorem VS (s:Ch.SI D h q last k) (hp:q.Perm (x::rest)) (hd:x.dst≠4):∃d,D[x.dst.toNat]? = some d∧Ch.cat D x.dst=d∧(4≤x.kind∧x.kind≤10)∧Ch.SI (D.set x.dst.toNat (takeF d x).1) h (rest++(takeF d x).2.1) last k:=by obtain⟨hr,hz,hs⟩:=s.cache hp hd;rw[Pm] at hs;exact⟨_,U2 hr.1 hr.2,rfl,(s.atl hp hd).2.1,hs⟩
theorem P7 (s:Ch.SI D h q last k) (hp:q.Perm (x::rest)) (hd:x.dst=4):Ch.SI D (takeH h x).1 (rest++(takeH h x).2.1) last (k+1)∧Ch.sumF Ch.cost (rest++(takeH h x).2.1)+Ch.sumF Ch.ecost (takeH h x).1.E+1≤Ch.sumF Ch.cost q+Ch.sumF Ch.ecost h.E∧(Rg h.bs→Rg (takeH h x).1.bs∧(takeH h x).1.bs.length=h.bs.length):=by rw[←R4 s.hi x];refine⟨(s.home hp hd).2,?_,fun hb=>hb.take x⟩;have:=(s.sv.take hp hd).2.phi;omega
theorem TU (s:Ch.SI D h q last k) (hi:D[i]? = some d) (addr width v:Int):∃last',Ch.SI (D.set i (AQ d addr width v).1) h q last' k:=by
 by_cases hr:Cm addr width=false
 ·refine⟨last,?_⟩;rw[show AQ d addr width v=(d,2) from if_pos hr];show Ch.SI (D.set i d) h q last k;rw[LX hi];exact s
 by_cases hw:Ap (stateOf d.L (addr/16))=false
 ·refine⟨last,?_⟩;rw[show AQ d addr width v=(d,232) from(if_neg hr).trans (if_pos hw)];show Ch.SI (D.set i d) h q last k;rw[LX hi];exact s
 have hw':Ap (Ch.stateOf d.L (addr/16))=true:=by rw[Mx];simpa using hw
 have hwr:=(Ch.wrb _).1 hw';obtain⟨y,hy1,hy2,hy3⟩:=Ch.there_of (L:=d.L) (n:=addr/16) (Ch.wr_ne hwr).1;have hyn:=y.hn;have h0:(0:Int)≤(i:Int):=by omega
 have h1:=Pc hi;have hN:=s.low h0 h1 (n:=addr/16) (by omega) (by rw[Fg hi];exact(Ch.wr_ne hwr).1);have hn:addr/16=(((addr/16).toNat:Nat):Int):=by omega
 obtain⟨hdo,hid⟩:=s.ok (i:Int) h0 h1;rw[Fg hi] at hdo hid;have hxn:(Ep y addr width v).num=addr/16:=hy3;have hx:AI d.L (Ep y addr width v).num≠none:=by rw[hxn,hy1];simp
 have hput:Cu d.n d.ways d.L (Ep y addr width v)=0:=Ch.putE_there hx (by show 1≤(3:Int)∧(3:Int)≤3;decide);have e:AQ d addr width v=(d.setL (putL d.n d.ways d.L (Ep y addr width v)),0):=by unfold AQ;rw[if_neg hr,if_neg hw,show Cj d.L (addr/16)=y from hy2,hput]
 have hli:=s.li _ hN;unfold Ch.LS at hli;rw[e];refine⟨fun n=>if n=(addr/16).toNat then(Ep y addr width v).bs else last n,?_⟩;have hs1:(Ch.vw D (((addr/16).toNat:Nat):Int) (i:Int))=Ch.cvw d (((addr/16).toNat:Nat):Int):=by unfold Ch.vw;rw[Fg hi]
 have hg:=Ch.write_li hli ⟨h0,h1⟩ (by rw[hs1];show Ch.wr (Ch.stateOf d.L _);rw[←hn];exact hwr) (Ep y addr width v).bs (s:=3) (.inr rfl);have hcv:Ch.cvw (d.setL (putL d.n d.ways d.L (Ep y addr width v))) (((addr/16).toNat:Nat):Int)=⟨3,(Ep y addr width v).bs,(Ch.vw D (((addr/16).toNat:Nat):Int) (i:Int)).g,(Ch.vw D (((addr/16).toNat:Nat):Int) (i:Int)).a⟩:=by rw[hs1];show(⟨Ch.stateOf (putL d.n d.ways d.L (Ep y addr width v)) _,Ch.bvw (putL d.n d.ways d.L (Ep y addr width v)) _,_,_⟩:Ch.CV)=_;rw[Ch.state_put hput,Ch.bvw_put hput,hxn,if_pos hn.symm,if_pos hn.symm];rfl
 rw[←hcv] at hg
 have:=s.upd1 (c:=(i:Int)) (d':=d.setL (putL d.n d.ways d.L (Ep y addr width v))) (last':=fun n=>if n=(addr/16).toNat then(Ep y addr width v).bs else last n) (W:=q) h0 h1 (DOk.wr hdo hx hput) hid hN (fun j hj=>if_neg hj) (fun _ _=>List.Perm.refl _) s.good (fun j hj=>by
  rw[Fg hi];show(⟨Ch.stateOf (putL d.n d.ways d.L (Ep y addr width v)) j,Ch.bvw (putL d.n d.ways d.L (Ep y addr width v)) j,_,_⟩:Ch.CV)=_;rw[Ch.state_put hput,Ch.bvw_put hput,hxn,if_neg (by omega),if_neg (by omega)]
  rfl) (by
  show Ch.LI _ _ _ (if(addr/16).toNat=(addr/16).toNat then _ else _) _ _ _ _ _;rw[if_pos rfl]
  exact hg)
 rwa[Int.toNat_natCast] at this
end
theorem Ra {d:CD} {m:Msg} (hk:4≤m.kind∧m.kind≤10):Ch.sumF Ch.cost (takeF d m).2.1+1≤Ch.cost m:=by
 have hc:m.kind=7∧Ch.cost m=1∨m.kind≠7∧Ch.cost m=2:=by
  by_cases h7:m.kind=7
  ·refine .inl ⟨h7,?_⟩;unfold Ch.cost
   (repeat' split)<;>omega
  ·refine .inr ⟨h7,?_⟩;unfold Ch.cost
   (repeat' split)<;>omega
 have hz:Ch.sumF Ch.cost ([]:List Msg)+1≤Ch.cost m:=by rw[Ch.sumF_nil];omega
 have h1:∀(k:Int) (b:B16),k=11∨k=12∨k=13→m.kind≠7→Ch.sumF Ch.cost [mkM k d.id 4 m.line b m.hn]+1≤Ch.cost m:=fun k b h h7=>by
  have e:Ch.sumF Ch.cost [mkM k d.id 4 m.line b m.hn]=1:=by rcases h with rfl|rfl|rfl<;>rfl
  omega
 unfold takeF;split
 ·exact hz
 ·split
  ·rename_i hk8;split
   ·exact h1 13 _ (.inr (.inr rfl)) (by omega)
   ·exact hz
  ·split
   ·rename_i hk4;split
    ·exact h1 11 _ (.inl rfl) (by omega)
    ·exact hz
   ·split
    ·rename_i hk6;split
     ·exact hz
     ·exact h1 12 _ (.inr (.inl rfl)) (by omega)
    ·split<;>exact hz
theorem Qu {d d':CD} {m:Msg} {bs:B16} (h:D9 d m=some (d',bs)):d'.ask=d.ask∧d'.L.length≤d.L.length:=by
 unfold D9 at h;split at h
 ·cases h;exact⟨rfl,Nat.le_refl _⟩
 ·split at h
  ·rename_i hw;cases h;refine⟨rfl,?_⟩;show(if m.kind=4 then putL d.n d.ways d.L ((Cj d.L m.line).st 1) else dropL d.L (Cj d.L m.line).num).length≤d.L.length;split
   ·have hw':Ap (Ch.stateOf d.L m.line)=true:=hw;obtain⟨y,hy1,hy2,hy3⟩:=Ch.there_of (L:=d.L) (n:=m.line) (Ch.wr_ne ((Ch.wrb _).1 hw')).1;have hf:Cj d.L m.line=y:=hy2;rw[hf];unfold putL;split
    ·rw[if_neg (by show¬AI d.L y.num=none;rw[hy3,hy1];simp),Fx];exact Nat.le_refl _
    ·exact Nat.le_refl _
   ·exact Ji _ _
  ·cases h
end Go.Proofs.YtpfijldkkfiooaaGreatDoor
namespace Go.Proofs.YtpfijldkkfiooaaGreatDoor.Ch
open Go Go.RowKit
set_option linter.unusedVariables false
theorem sumF_mono {α:Type} {f g:α→Nat}:∀{l:List α},(∀x∈l,f x≤g x)→sumF f l≤sumF g l
 | [],_=>Nat.le_refl _
 | x::r,h=>by have h1:=h x (.head _);have h2:=sumF_mono (l:=r) fun y hy=>h y (.tail _ hy);rw[sumF_cons,sumF_cons];omega
theorem KZ {α β:Type} (f:α→β→Nat) (C:List β):∀L:List α,sumF (fun n=>sumF (f n) C) L=sumF (fun c=>sumF (fun n=>f n c) L) C
 | []=>by have:sumF (fun c:β=>sumF (fun n:α=>f n c) []) C=0*C.length:=FSx fun _ _=>rfl;rw[this,Nat.zero_mul];rfl
 | x::r=>by rw[sumF_cons,KZ f C r,←Dd];rfl
def wt (v:CV):Nat:=9*v.a.toList.length+2*v.g.toList.length
theorem LI.key {M:Nat} {d:Ent} {mem cur:B16} {v:Int→CV} {R:List ER} {G:Int→List Bool} {P:Int→List B16} {A:Int→List Unit} (h:LI M d mem cur v R G P A):2*R.length+(if BW d=true then 2 else 0)+sumF (fun c=>tc (G c) (P c) (A c)) (rng M)≤2+sumF (fun c=>wt (v c)) (rng M):=by
 have hf:=h.few;obtain⟨R',sv,hp,hph,ht⟩:=h.ph
 have hle:sumF (fun c=>tc (G c) (P c) (A c)+9*(Eg d sv c).length) (rng M)≤sumF (fun c=>wt (v c)) (rng M):=sumF_mono fun c hc=>by
  have hc:=PR hc;have t:=ht c hc.1 hc.2;have e:=congrArg List.length t.ask;rw[List.length_append] at e;show tc (G c) (P c) (A c)+9*(Eg d sv c).length≤wt (v c);unfold tc wt;rcases t.put with⟨_,a,b⟩|⟨b,hb,⟨a1,a2⟩|⟨a1,a2⟩⟩
  ·rw[a,b];simp only[List.length_nil];omega
  ·rw[a1,a2,hb];show 9*(G c).length+2*1+0+_≤_+2*1;omega
  ·rw[a1,a2,hb];show 9*(G c).length+2*0+1+_≤_+2*1;omega
 rw[Dd] at hle;have hR:=hp.length_eq;cases sv with
 | false=>
  have:2*R'.length+(if BW d=true then 2 else 0)≤2:=by
   have n0:∀{r:Nat},(d.busy=false∨d.told=true)→r≤1→2*r+(if BW d=true then 2 else 0)≤2:=fun ho hr=>by rw[if_neg (by unfold BW;rcases ho with h|h<;>simp[h])];omega
   cases hph with
   | idleO a=>exact n0 (.inl a) (Nat.zero_le _)
   | idleS a=>exact n0 (.inl a) (Nat.zero_le _)
   | doneO _ a=>exact n0 (.inr a) (Nat.le_refl _)
   | doneS _ a=>exact n0 (.inr a) (Nat.le_refl _)
  omega
 | true=>
  have hb:d.busy=true:=by cases hph<;>assumption
  have ha:=h.ask hb;have h1:=IE (f:=fun c=>9*(Eg d true c).length) (IJ ha.1 ha.2);have h2:(Eg d true d.asks).length=1:=by unfold Eg;rw[if_pos ⟨rfl,rfl⟩];rfl
  have h1:9*(Eg d true d.asks).length≤_:=h1;have h3:(if BW d=true then 2 else 0)≤2:=by split<;>omega
  omega
section
variable {cs:List CD} {h:HD} {way:List Msg} {last:Nat→B16} {k:Nat}
theorem SI.lineW (s:SI cs h way last k) {n:Nat} (hn:n<h.E.length):sumF cost (wn n way)+ecost (Aa h.E n)≤2+sumF (fun c=>wt (vw cs n c)) (rng cs.length):=by
 have hl:=s.li n hn;unfold LS at hl;have h1:=MB (M:=cs.length) (N:=h.E.length) (wn n way) fun m hm=>s.good m (List.mem_filter.1 hm).1;have h2:=HO (M:=cs.length) (Aa h.E n).q fun m hm=>by have h3:=(s.hi.2 n hn).1.ok.rest m hm;exact⟨h3.kind,h3.src.1,by have:=s.q n hn m hm;omega⟩
 have h3:=hl.key;have h4:sumF (fun c=>tc ((wn n way).flatMap (gt c)) ((wn n way).flatMap (pt c)) ((wn n way).flatMap (kt c))) (rng cs.length)+sumF (fun c=>tc ((Aa h.E n).q.flatMap (gt c)) ((Aa h.E n).q.flatMap (pt c)) []) (rng cs.length)=sumF (fun c=>tc ((wn n way).flatMap (gt c)++(Aa h.E n).q.flatMap (gt c)) ((wn n way).flatMap (pt c)++(Aa h.E n).q.flatMap (pt c)) ((wn n way).flatMap (kt c))) (rng cs.length):=by rw[←Dd];congr 1;funext c;rw[←OW,List.append_nil]
 have h6:ecost (Aa h.E n)=(if BW (Aa h.E n)=true then 2 else 0)+sumF B7 (Aa h.E n).q:=rfl;omega
theorem Nh (l:Int) (N:Nat):sumF (fun n:Nat=>if l=(n:Int) then 1 else 0) (List.range N)≤1:=by
 have h1:sumF (fun n:Nat=>if l=(n:Int) then 1 else 0) (List.range N)≤sumF (fun n:Nat=>if l.toNat=n then 1 else 0) (List.range N):=sumF_mono fun n _=>by
  by_cases h:l=(n:Int)
  ·rw[if_pos h,if_pos (by omega)];exact Nat.le_refl _
  ·rw[if_neg h];exact Nat.zero_le _
 have h2:=L6 1 l.toNat N;split at h2<;>omega
theorem YI (d:CD) (N:Nat):sumF (fun n:Nat=>wt (cvw d n)) (List.range N)≤11:=by
 have ha:sumF (fun n:Nat=>(avw d.ask n).toList.length) (List.range N)≤1:=by
  cases d.ask with
  | none=>exact Nat.le_trans (Nat.le_of_eq (FSx (k:=0) fun _ _=>rfl)) (by rw[Nat.zero_mul];exact Nat.zero_le _)
  | some y=>
   obtain⟨l,w⟩:=y;refine Nat.le_trans (sumF_mono fun n _=>?_) (Nh l N);unfold avw;dsimp only;split<;>exact Nat.le_refl _
 have hg:sumF (fun n:Nat=>(gvw d.giv n).toList.length) (List.range N)≤1:=by
  cases d.giv with
  | none=>exact Nat.le_trans (Nat.le_of_eq (FSx (k:=0) fun _ _=>rfl)) (by rw[Nat.zero_mul];exact Nat.zero_le _)
  | some x=>
   refine Nat.le_trans (sumF_mono fun n _=>?_) (Nh x.num N);unfold gvw;dsimp only;split<;>exact Nat.le_refl _
 have e9:∀(c:Nat) (f:Nat→Nat) (l:List Nat),sumF (fun n=>c*f n) l=c*sumF f l:=fun c f l=>by
  induction l with
  | nil=>rfl
  | cons x r ih=>rw[sumF_cons,sumF_cons,ih,Nat.mul_add]
 show sumF (fun n:Nat=>9*(avw d.ask n).toList.length+2*(gvw d.giv n).toList.length) (List.range N)≤11;rw[Dd,e9,e9];omega
theorem SI.phiR (s:SI cs h way last k):sumF cost way+sumF ecost h.E≤2*h.E.length+44:=by
 rw[Qk h.E.length way fun m hm=>(s.good m hm).line,Sn ecost h.E,←Dd];have h1:=sumF_mono (f:=fun n:Nat=>sumF cost (wn n way)+ecost (Aa h.E n)) (g:=fun n:Nat=>2+sumF (fun c=>wt (vw cs n c)) (rng cs.length)) (l:=List.range h.E.length) fun n hn=>s.lineW (List.mem_range.1 hn);have hr:sumF (fun n:Nat=>2+sumF (fun c=>wt (vw cs n c)) (rng cs.length)) (List.range h.E.length)=2*h.E.length+sumF (fun c=>sumF (fun n:Nat=>wt (vw cs n c)) (List.range h.E.length)) (rng cs.length):=by rw[Dd,KZ,FSx (f:=fun _:Nat=>2) (k:=2) fun _ _=>rfl,List.length_range]
 rw[hr] at h1;have h2:=sumF_le (f:=fun c=>sumF (fun n:Nat=>wt (vw cs n c)) (List.range h.E.length)) (k:=11) (l:=rng cs.length) fun c _=>YI (cat cs c) _;rw[P5] at h2;have:=s.len;omega
theorem SI.countR (s:SI cs h way last k) (hE:h.E.length≤64):way.length≤172:=by
 have hM:(cs.length:Int)≤4:=by have:=s.len;omega
 have h1:=Ly (f:=cost) (l:=way) fun m hm=>((s.good m hm).good hM).cost;have h2:=s.phiR;omega
end
end Go.Proofs.YtpfijldkkfiooaaGreatDoor.Ch
namespace Go.Proofs.YtpfijldkkfiooaaGreatDoor
open Go
theorem FR {D:List CD} {h:HD} {q ms:List Msg} {last:Nat→B16} {k:Nat} (s:Ch.SI D h (q++ms) last k) (h8:h.E.length≤64):Bf 1024 q ms=q++ms:=
 KV ms q (fun m hm=>(s.good m (List.mem_append_right _ hm)).chk) (by have:=s.countR h8;rw[List.length_append] at this;omega)
end Go.Proofs.YtpfijldkkfiooaaGreatDoor
namespace Go.Proofs.YtpfijldkkfiooaaGreatDoor.Ch
open Go Go.RowKit
set_option linter.unusedVariables false
section
variable {cs:List CD} {h:HD} {way rest:List Msg} {last:Nat→B16} {k:Nat} {m:Msg} {line c:Int}
theorem SI.none {d:CD} {i:Nat} (s:SI cs h [] last k) (hi:cs[i]? = some d):d.ask = .none∧d.giv = .none:=by
 have h1:=Pc hi;have q:=fun n=>s.quiet (z:=(i:Int)) (by omega) h1 n;unfold vw at q;rw[Fg hi] at q;constructor
 ·cases ha:d.ask with
  | none=>rfl
  | some y=>
   obtain⟨l,w⟩:=y;have h2:avw d.ask l = .none:=(q l).1;rw[ha] at h2;unfold avw at h2;dsimp only at h2;rw[if_pos rfl] at h2;cases h2
 ·cases hg:d.giv with
  | none=>rfl
  | some x=>
   have h2:gvw d.giv x.num = .none:=(q x.num).2;rw[hg] at h2;unfold gvw at h2;dsimp only at h2;rw[if_pos rfl] at h2;cases h2
end
end Go.Proofs.YtpfijldkkfiooaaGreatDoor.Ch
namespace Go.Proofs.YtpfijldkkfiooaaGreatDoor
open Go
set_option maxRecDepth 4000
def MD.ca (m:MD) (i:Nat):CD:=m.D.getD i ⟨0,1,1,[],none,none⟩
theorem c22 (k b i:Nat) (m:MD) (hi:i<m.C.length):Sp Tryz.prog 22 [pt b,.int .i64 (i:Int)] [.hp (A4 k b m)] fun K=>∀b',K (.returned (pt b')) [.hp (AK b' (m.ca i)),.hp (A4 k b m)]:=by
 refine Zen Tryz.func22 U U U fun e X Φ hS=>Zsr<|Zy U<|Aj<|Zm U<|Zk (c35 ..) [0] U U<|Zq ?_;refine Zb 6 U<|Zg U U ?_;refine Za 3 [0] U U<|Zg U U ?_;refine Zol 0 E0 U<|fun bp=>Zv (yd 0 U U U)<|Za 2 [1] U U<|Zg U U ?_;refine Zol 1 Cs U<|fun ok A cap B capb bn bh cb kb hl=>Zv (yd 0 U U U)<|Zg U U<|Zv (Aw ⟨_,Tryz.underlying106⟩ U)<|Zb 2 U<|Zn<|Df U (dF (by omega)) ?_;refine Zks<|Za 7 [0,7,1,0] U U ?_;refine Zm U<|Zv (yea 2 own.rd U U U (by first|assumption|omega) U Tryz.underlying106 U)<|Zv (yec (m:=0) 2 own.rd U (gE (by first|assumption|omega)) U U U) ?_;have hd:=ok.d
 have hki:=gE (l:=kb) (k:=i) (by omega);have hDi:=gE (l:=m.D) (k:=i) (by omega);have hz:=De hki hDi;have hzl:i<(kb.zip m.D).length:=(List.getElem?_eq_some_iff.1 hz).1;have hg:m.ca i=m.D[i]'(by omega):=by unfold MD.ca;rw[List.getD_eq_getElem?_getD,hDi];rfl
 rw[hg] at hS;refine Zol 4 (Ea hz) U<|Zk (c42 ..) [0] U U<|fun b'=>Zq<|Zy U<|Znr ?_;refine Zfx [1,1] (Dn hki hDi hzl) U ?_;refine Zfx [2,2,2,2,0,1,1] (AM (m:=m) ok hl) U ?_;refine Zfx [2,0] (B9 (m:=m)) U<|Zre (.t U .n) (hS _) [1,0] 0 U U U U
theorem c19 (k b:Nat) (c:Cor):Sp Tryz.prog 19 [pt b] [.hp (Br k b c)] fun K=>∀A cap,K (.returned (.slice A c.B.length cap)) [.hp (own DU A cap c.B),.hp (Br k b c)]:=by refine Zen Tryz.func19 U U U fun e X Φ hS=>Zsr<|Zy U<|Aj<|Zm U<|Zk (c53 ..) [0] U U<|Zq ?_;refine Zn<|Zcf U<|Zks<|Za 3 [37] U U ?_;refine Zol 0 CO U<|fun ok A cap bb pr hr=>Zv (yd 0 U U (Bj 2 U U))<|Zk (c54 ..) [2] U U<|fun A_1=>fun cap_1=>Zq<|Zy U<|Znr ?_;refine Zfx [2,2,1,1] (Az (c:=c) ok) U<|Zre (.t U .n) (hS _ _) [1,0] 0 U U U U
structure MD.Few (k:Nat) (m:MD):Prop where
 f:∀c∈m.C,c.first≤k
 q:∀n,n<m.h.E.length→(Aa m.h.E n).q.length≤k
theorem R7 {k k' b:Nat} {c:Cor} (hk:c.first≤k'):∀g,Sep [.hp (Br k b c)] g→Br k' b c g:=fun g hs=>by obtain⟨h1,h2,hle,_,_,⟨ok,A,cap,bb,pr,hp⟩,_⟩:=hs;exact⟨{ ok with f1:=hk },A,cap,bb,pr,hp.up hle⟩
theorem SO {k k' b:Nat} {h:HD} (hk:∀n,n<h.E.length→(Aa h.E n).q.length≤k'):∀g,Sep [.hp (Ci k b h)] g→Ci k' b h g:=fun g hs=>by obtain⟨h1,h2,hle,_,_,⟨ok,bi,r,es,hK,hp⟩,_⟩:=hs;exact⟨⟨ok.r,ok.l,ok.p,ok.e,fun n hn=>⟨(ok.w n hn).a,(ok.w n hn).w,(ok.w n hn).q,hk n hn⟩⟩,bi,r,es,hK,hp.up hle⟩
theorem QY {k k' b:Nat} {m:MD} (hk:m.Few k'):∀g,Sep [.hp (BJ k b m)] g→BJ k' b m g:=fun g hs=>by
 obtain⟨h1,h2,hle,_,_,⟨ok,A,cap,B,capb,bn,bh,cb,kb,hl,hp⟩,_⟩:=hs;have hp:=hp.up hle;refine⟨ok.mono,A,cap,B,capb,bn,bh,cb,kb,hl,?_⟩;refine hp.mapTl fun _ hp=>hp.mapTl fun _ hp=>hp.mapTl fun _ hp=>?_;have hp:=hp.hd (q := .hp (BB k' (cb.zip m.C))) fun _ hh=>GS hh fun x hx h hc=>R7 (hk.f x.2 (List.of_mem_zip hx).2) h (BN hc);refine hp.mapTl fun _ hp=>hp.mapTl fun _ hp=>hp.mapTl fun _ hp=>?_;exact hp.hd (q := .hp (Ci k' bh m.h)) fun _ hh=>SO hk.q _ (BN hh)
theorem KF {k k' b:Nat} {m:MD} (hk:m.Few k'):∀g,Sep [.hp (A4 k b m)] g→A4 k' b m g:=fun g hs=>by obtain⟨h1,h2,hle,_,_,⟨bp,hp⟩,_⟩:=hs;have hp:=hp.up hle;exact⟨bp,hp.mapTl fun _ hp=>hp.hd fun _ hh=>QY hk _ (BN hh)⟩
theorem Xl {k pick:Int} (hp : -9223372036854775808≤pick∧pick≤9223372036854775807):Kf ⟨k,0,pick⟩:=⟨⟨show(-9223372036854775808:Int)≤0 by decide,show(0:Int)≤9223372036854775807 by decide⟩,hp⟩
end Go.Proofs.YtpfijldkkfiooaaGreatDoor
namespace Go.Proofs.YtpfijldkkfiooaaGreatDoor
open Go
set_option linter.unusedVariables false
structure StI (S:Nat) (s:Sto):Prop where
 u:U32 s.addr
 w:s.width=1∨s.width=2∨s.width=4
 al:s.addr%s.width=0
 le:s.addr+s.width≤S
structure AcI (S:Nat) (a:Acc):Prop where
 k:1≤a.kind∧a.kind≤5→(a.width=1∨a.width=2∨a.width=4)∧a.addr+a.width≤S
 s:a.kind=2→U32 a.addr
theorem Uj {op:Int} (h:11≤op∧op≤18):HU op=1∨HU op=2∨HU op=4:=by
 obtain rfl|rfl|rfl|rfl|rfl|rfl|rfl|rfl:op=11∨op=12∨op=13∨op=14∨op=15∨op=16∨op=17∨op=18:=by omega
 all_goals first|exact .inl rfl|exact .inr (.inl rfl)|exact .inr (.inr rfl)
theorem Rt (h:Hrt) (i:Ins):(1≤(Dm h i).kind∧(Dm h i).kind≤5→((Dm h i).width=1∨(Dm h i).width=2∨(Dm h i).width=4))∧((Dm h i).kind=2→U32 (Dm h i).addr):=by
 unfold Dm;split
 ·exact⟨fun h=>by have h2:(6:Int)≤5:=h.2;omega,fun h=>by have h:(6:Int)=2:=h;omega⟩
 ·split
  ·rename_i h1;exact⟨fun _=>Uj (by omega),fun h=>by have h:(1:Int)=2:=h;omega⟩
  ·split
   ·rename_i h1;exact⟨fun _=>Uj (by omega),fun _=>BK _⟩
   ·split
    ·exact⟨fun _ => .inr (.inr rfl),fun h=>by have h:(3:Int)=2:=h;omega⟩
    ·split
     ·exact⟨fun _ => .inr (.inr rfl),fun h=>by have h:(4:Int)=2:=h;omega⟩
     ·split
      ·exact⟨fun _ => .inr (.inr rfl),fun h=>by have h:(5:Int)=2:=h;omega⟩
      ·exact⟨fun h=>by have h2:(1:Int)≤0:=h.1;omega,fun h=>by have h:(0:Int)=2:=h;omega⟩
theorem Ye {h:Hrt} {w size:Int} {i:Ins} {a:Acc} {p:Int} (e:DL h w size = .ok (i,a,p)):a=Dm h (AO w).1∧(0<a.width→a.addr+a.width≤size):=by
 unfold DL at e;split at e
 ·cases e
 ·split at e
  ·cases e
  ·split at e
   ·split at e
    ·cases e
    ·split at e
     ·cases e
     ·rename_i hb;split at e
      ·cases e
      ·cases e;exact⟨rfl,fun _=>by simpa using hb⟩
   ·rename_i hw;split at e
    ·cases e
    ·cases e;exact⟨rfl,fun h=>absurd h hw⟩
theorem WS (h:Hrt) (w:Int) (S:Nat):AcI S (AS h w S).1:=by
 have z:AcI S Hj:=⟨fun h=>by have h2:(1:Int)≤0:=h.1;omega,fun h=>by have h:(0:Int)=2:=h;omega⟩
 unfold AS;split
 ·exact z
 ·split
  ·rename_i i a p e;obtain⟨rfl,hb⟩:=Ye e;obtain⟨h1,h2⟩:=Rt h (AO w).1;exact⟨fun hk=>⟨h1 hk,hb (by rcases h1 hk with h|h|h<;>omega)⟩,h2⟩
  ·exact z
section
variable {N S f:Nat} {last:Nat→B16} {m:MD} {i:Nat} {d:CD} {c:Cor}
theorem Jd {q:List Msg} {j:Nat} {x:Msg} (h:q[j]? = some x):q.Perm (x::Ej q j):=by
 obtain⟨hj,hx⟩:=List.getElem?_eq_some_iff.1 h;have e:q=q.take j++(x::q.drop (j+1)):=by rw[←hx,←List.drop_eq_getElem_cons hj,List.take_append_drop]
 exact(List.Perm.of_eq e).trans List.perm_middle
theorem QB (h:m.q=[]) (pick:Int):Bv m pick=m:=by simp only[Bv,h,List.getElem?_nil]
def Iq (m:MD):Nat:=Ch.sumF Ch.cost m.q+Ch.sumF Ch.ecost m.h.E
end
theorem FN {i n:Nat} (h:i<n):Am (i:Int) n=i:=by
 have e1:Int.tmod (i:Int) (n:Int)=i:=by rw[Int.tmod_eq_emod_of_nonneg (by omega)];exact Int.emod_eq_of_lt (by omega) (by omega)
 have e2:((i:Int)+(n:Int))%(n:Int)=i:=by rw[Int.add_emod_right];exact Int.emod_eq_of_lt (by omega) (by omega)
 unfold Am;rw[e1,Int.tmod_eq_emod_of_nonneg (by omega),e2];exact Int.toNat_natCast i
section
variable {N S f:Nat} {last:Nat→B16} {m m':MD} {i j:Nat} {d:CD} {c:Cor} {pick:Int}
theorem Ns {s:Sto} (hs:StI S s):¬Cm s.addr s.width=false:=by have h:=hs.al;unfold Cm;rcases hs.w with e|e|e<;>rw[e] at h⊢<;>simp[h]
end
end Go.Proofs.YtpfijldkkfiooaaGreatDoor
