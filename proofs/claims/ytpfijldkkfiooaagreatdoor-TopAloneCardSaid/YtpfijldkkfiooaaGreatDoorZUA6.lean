/-
  Part 6 of what the claim stands on: walks through the code, plain laws.
-/
import Derived.Test.YtpfijldkkfiooaaGreatDoorZUA5
set_option linter.unusedVariables false
set_option linter.unusedSimpArgs false
namespace Go.Proofs.YtpfijldkkfiooaaGreatDoor
open Go
theorem com_eqn (w:World) (n:Nat) (a b:Com):(Op.equalIn (n+1+1+1) 49 (.agg a.cells.toArray) (.agg b.cells.toArray)).run Tryz.prog w = .ok (decide (a=b)) w:=by
 have h:=run_equalIn_struct (P:=Tryz.prog) w (n+1+1) 49 a.cells.toArray b.cells.toArray (by kernel_rfl) (by kernel_rfl)
 rw [h]
 obtain ⟨pc,wd,⟨k,ad,wi,va,op,aq,rl⟩,⟨av,ao⟩,rd,vl,cs⟩:=a
 obtain ⟨pc',wd',⟨k',ad',wi',va',op',aq',rl'⟩,⟨av',ao'⟩,rd',vl',cs'⟩:=b
 simp only [Program.fieldsOf,Tryz.underlying49,Op.eqFields]
 simp [go_sem,Com.cells]
 by_cases h1:pc=pc' <;> simp [h1]
 by_cases h2:wd=wd' <;> simp [h2]
 by_cases h3:k=k' <;> simp [h3]
 by_cases h4:ad=ad' <;> simp [h4]
 by_cases h5:wi=wi' <;> simp [h5]
 by_cases h6:va=va' <;> simp [h6]
 by_cases h7:op=op' <;> simp [h7]
 by_cases h8:aq=aq' <;> simp [h8]
 by_cases h9:rl=rl' <;> simp [h9]
 by_cases h10:av=av' <;> simp [h10]
 by_cases h11:ao=ao' <;> simp [h11]
 by_cases h12:rd=rd' <;> simp [h12]
 by_cases h13:vl=vl' <;> simp [h13]
 by_cases h14:cs=cs' <;> simp [h14]
theorem sizeU32:(Tryz.prog.info? 40).map (·.size)=some 1:=by kernel_rfl
theorem hrt_eq (w:World) (m m':Hrt):(Op.equal 59 (.agg m.cells.toArray) (.agg m'.cells.toArray)).run Tryz.prog w = .ok (decide (m=m')) w:=by
 have h:=run_equalIn_struct (P:=Tryz.prog) w 9999 59 m.cells.toArray m'.cells.toArray (by kernel_rfl) (by kernel_rfl)
 have ha:(Op.equalIn 9999 57 (.agg (m.regs.map (Value.int .u32)).toArray) (.agg (m'.regs.map (Value.int .u32)).toArray)).run Tryz.prog w = .ok (decide (m.regs=m'.regs)) w:=
  run_equalIn_arr (P:=Tryz.prog) w 9997 Tryz.underlying57 Tryz.underlying40 sizeU32 m.regs m'.regs m.hr m'.hr
 have t1:List.take 32 (m.regs.map (Value.int .u32)++[.int .i64 m.cause])=m.regs.map (Value.int .u32):=List.take_left' (by simp [m.hr])
 have t2:List.take 32 (m'.regs.map (Value.int .u32)++[.int .i64 m'.cause])=m'.regs.map (Value.int .u32):=List.take_left' (by simp [m'.hr])
 have t3:(m.regs.map (Value.int .u32)++[.int .i64 m.cause])[32]? = some (.int .i64 m.cause):=by rw [List.getElem?_append_right (by simp [m.hr])];simp [m.hr]
 have t4:(m'.regs.map (Value.int .u32)++[.int .i64 m'.cause])[32]? = some (.int .i64 m'.cause):=by rw [List.getElem?_append_right (by simp [m'.hr])];simp [m'.hr]
 show (Op.equalIn (9999+1) 59 _ _).run Tryz.prog w=_
 rw [h]
 simp only [Program.fieldsOf,Tryz.underlying59,Op.eqFields]
 have e:(m=m')↔(m.id=m'.id∧m.pc=m'.pc∧m.regs=m'.regs∧m.cause=m'.cause):=by
  constructor
  ·rintro rfl;simp
  ·rintro ⟨h1,h2,h3,h4⟩
   cases m;cases m'
   simp_all
 simp [go_sem,Hrt.cells,e,t1,t2,t3,t4]
 by_cases a1:m.id=m'.id <;> simp [a1]
 by_cases a2:m.pc=m'.pc <;> simp [a2]
 simp only [ha,Result.andThen]
 by_cases a3:m.regs=m'.regs <;> simp [a3]
 by_cases a4:m.cause=m'.cause <;> simp [a4]
theorem comER:comE.Rec where
 eq:=fun w a b=>com_eqn w 9997 a b
 calm:=by kernel_rfl
theorem hrtER:hrtE.Rec where
 eq:=hrt_eq
 calm:=by kernel_rfl
end Go.Proofs.YtpfijldkkfiooaaGreatDoor
namespace Go.Proofs.YtpfijldkkfiooaaGreatDoor
open Go
set_option maxRecDepth 4000
theorem c122n (s ways:Int) (hs:s<1):Sp Tryz.prog 122 [.int .i64 s,.int .i64 ways] [] fun K=>K (.returned (.tuple #[.pointer none,.int .i64 2])) []:=by
 refine Zen Tryz.func122 U U U fun e X Φ hS=>Zsr<|Zb 2 U<|Znqs<|Zb 2 U ?_
 refine Zm U<|Zu' U U (dT hs) U<|Zu' U U (dT hs) U<|Zv (ypt' U (dT hs) U)<|Zb 6 U ?_
 refine Zb 9 U<|Znl ?_
 refine Znx<|Zct U<|Zsr<|Zb 2 U<|Znr<|Zr1<|Zre (.t U (.t U .n)) hS [] 0 U U U U
theorem c75n (i s ways:Int) (h0:0≤i) (h1:i<4) (hs:s<1):Sp Tryz.prog 75 [.int .i64 i,.int .i64 s,.int .i64 ways] [] fun K=>K (.returned (.tuple #[.pointer none,.int .i64 2])) []:=by
 refine Zen Tryz.func75 U U U fun e X Φ hS=>Zsr<|Zb 2 U<|Zns<|Zb 2 U ?_
 refine Zk (c122n s ways hs) [] U U<|Zq<|Zb 5 U<|Znq ?_
 refine Zsr<|Zb 9 U ?_
 refine Zv (ypt U U)<|Zn<|Zct U<|Zsr<|Zb 2 U<|Znr ?_
 refine Zr1<|Zre (.t U (.t U .n)) hS [] 0 U U U U
theorem right_pos {s ways:Int} (h:rightB s ways=true):1≤s:=by
 unfold rightB pow2 at h
 simp at h
 omega
theorem c75z (i s ways:Int) (h0:0≤i) (h1:i<4):Sp Tryz.prog 75 [.int .i64 i,.int .i64 s,.int .i64 ways] [] fun K=>(rightB s ways=true→∀ b,K (.returned (.tuple #[pt b,.int .i64 0])) [.hp (cacC b (newD i s.toNat ways))])∧(rightB s ways=false→K (.returned (.tuple #[.pointer none,.int .i64 2])) []):=by
 rcases (show s<1∨1≤s by omega) with h | h
 ·exact ⟨fun e X w Φ hp hS=>(c75n i s ways h0 h1 h).run e X w Φ hp (hS.2 (by
   cases hr:rightB s ways with
   | true=>have:=right_pos hr;omega
   | false=>rfl))⟩
 ·have hn:s=((s.toNat:Nat):Int):=by omega
  have hc:=c75 i s.toNat ways h0 h1
  rwa [← hn] at hc
def slE:Enc Tryz.prog (Option Addr × Nat × List Int) where
 T:=62
 n:=1
 cells:=fun x=>[.slice x.1 x.2.2.length x.2.1]
 len:=fun _=>rfl
 one:=fun x v hv=>by
  rw [List.mem_singleton] at hv
  subst hv
  rfl
 pos:=by decide
structure Cds (c:Ck) (A:Option Addr) (cap:Nat) (l:List (Option Addr × Nat × List Int)):Prop where
 r:Rd slE c A cap l
 w:∀ x∈l,x.2.1≠0→Rd u32E c x.1 x.2.1 x.2.2
 z:∀ x∈l,x.2.1=0→x.2.2=[]
 n:∀ x∈l,x.1=none→x.2.2=[]∧x.2.1=0
 u:∀ x∈l,∀ a∈x.2.2,U32 a
abbrev cdsOf (l:List (Option Addr × Nat × List Int)):List (List Int):=l.map (·.2.2)
def newC (i:Nat) (size:Int) (code:List Int):Cor:=⟨hrt0 i,code,size,[],0,none⟩
def cachesF (sets ways:Int) (n:Nat):List CD:=(List.range n).map fun i=>newD (i:Nat) sets.toNat ways
def newM (cs:List (List Int)) (bs:List Int) (sets ways:Int):MD:=⟨(List.range cs.length).map fun i=>newC i (bs.length:Int) (cs.getD i []),cachesF sets ways cs.length,1024,[],home0 bs⟩
def newOk (cs:List (List Int)) (sets ways:Int):Bool:=decide (1≤cs.length) && decide (cs.length≤4) && rightB sets ways && cs.all fun c=>decide (c.length≤1024)
theorem newM_C {l:List (Option Addr × Nat × List Int)} {bs:List Int} {sets ways:Int} {i:Nat} (h:i<l.length):(newM (cdsOf l) bs sets ways).C[i]? = some (newC i (bs.length:Int) l[i].2.2):=by
 show ((List.range (cdsOf l).length).map _)[i]? = _
 rw [List.getElem?_map,List.getElem?_range (by rw [List.length_map];exact h)]
 simp [h]
theorem newM_D {l:List (Option Addr × Nat × List Int)} {bs:List Int} {sets ways:Int} {i:Nat} (h:i<l.length):(newM (cdsOf l) bs sets ways).D[i]? = some (newD (i:Nat) sets.toNat ways):=by
 show ((List.range (cdsOf l).length).map _)[i]? = _
 rw [List.getElem?_map,List.getElem?_range (by rw [List.length_map];exact h)]
 rfl
theorem newOk_no1 {l:List (Option Addr × Nat × List Int)} {sets ways:Int} {i:Nat} (h:i<l.length) (hc:¬ l[i].2.2.length≤1024):newOk (cdsOf l) sets ways=false:=by
 cases hn:newOk (cdsOf l) sets ways with
 | false=>rfl
 | true=>
  exfalso
  unfold newOk at hn
  simp only [Bool.and_eq_true,List.all_eq_true] at hn
  exact hc (of_decide_eq_true (hn.2 _ (List.mem_map.2 ⟨l[i],List.getElem_mem h,rfl⟩)))
theorem newOk_no2 {l:List (List Int)} {sets ways:Int} (h:rightB sets ways=false):newOk l sets ways=false:=by
 unfold newOk
 rw [h]
 simp
theorem newOk_yes {l:List (Option Addr × Nat × List Int)} {sets ways:Int} (h1:1≤l.length) (h4:l.length≤4) (hr:rightB sets ways=true) (hc:∀ (i:Nat) (h:i<l.length),l[i].2.2.length≤1024):newOk (cdsOf l) sets ways=true:=by
 unfold newOk
 rw [hr]
 simp only [Bool.and_eq_true,List.all_eq_true,decide_eq_true_eq,List.length_map]
 refine ⟨⟨⟨h1,h4⟩,trivial⟩,fun x hx=>?_⟩
 obtain ⟨y,hy,rfl⟩:=List.mem_map.1 hx
 obtain ⟨i,hi,rfl⟩:=List.getElem_of_mem hy
 exact hc i hi
structure NwI (l:List (Option Addr × Nat × List Int)) (sets ways:Int) (c:Cpy):Prop where
 i:c.i≤l.length
 nb:c.nb.length=c.i
 nk:c.nk.length=c.i
 r:0<c.i→rightB sets ways=true
 k:∀ (j:Nat) (h:j<l.length),j<c.i→l[j].2.2.length≤1024
theorem c32 (c:Ck) (A:Option Addr) (cap:Nat) (l:List (Option Addr × Nat × List Int)) (bi:Nat) (bs:List Int) (sets ways:Int) (hC:Cds c A cap l) (hz:szF bs.length=false) (hr:∀ a∈bs,0≤a∧a<256):Sp Tryz.prog 32 [.slice A l.length cap,pt bi,.int .i64 sets,.int .i64 ways] [.hp (imgC bi bs),c] fun K=>
  (newOk (cdsOf l) sets ways=true→∀ b,K (.returned (.tuple #[pt b,.int .i64 0])) [.hp (machC 0 b (newM (cdsOf l) bs sets ways)),.hp (imgC bi bs),c])∧(newOk (cdsOf l) sets ways=false→K (.returned (.tuple #[.pointer none,.int .i64 2])) [.hp (imgC bi bs),c]):=by
 obtain ⟨z1,z2⟩:16≤bs.length∧bs.length≤4096:=by
  unfold szF at hz
  simp only [Bool.or_eq_false_iff,decide_eq_false_iff_not] at hz
  omega
 have hRc:=hC.r
 have hmx:(1:Int)≤1024∧(1024:Int)≤1024:=by decide
 refine Zen Tryz.func32 U U U fun e X Φ hS=>Zsr<|Zb 2 U<|Zns<|Zm U ?_
 refine Zk (c71 bi bs (by omega) (by omega) hr) [0] U U<|fun b'=>Zq<|Zb 5 U<|Zn ?_
 refine Zsq<|Zsr<|Zb 2 U<|Zn<|Zcf U<|Zkn<|Zsq ?_
 refine Zsr<|Zm U<|Zv (sl_of ⟨_,Tryz.underlying22⟩ U)<|Zb 2 U<|Zgs U U (fun h30=>?_) (fun h30=>?_)
 refine Zu' U U (dT h30) U<|Zu' U U (dT h30) U<|Zu' U U (dT h30) U<|Zv (ypt' U (dT h30) U)<|Zn<|Zct U<|Zsr<|Zb 2 U ?_
 refine Znr<|Zr1 ?_
 rotate_left
 refine Zg' U U (dF h30)<|Zm U<|Zg' U U (dF h30)<|Zv (sl_of ⟨_,Tryz.underlying22⟩ U)<|Zg' U U (dF h30)<|Zv (ygt U U)<|Zv (ypf' U (dF h30) U)<|Zn<|Zif U (fun h34=>?_) (fun h34=>?_)
 refine Zsr<|Zb 2 U<|Znr<|Zr1 ?_
 rotate_left
 refine Zks<|Zm U<|Zv (yb l108 U)<|Ze (ebx U) fun b37=>Zw<|Zy U<|Zns ?_
 refine Zm U ?_
 rotate_left
 ·refine Zre (.t U (.t U .n)) (hS.2 (by unfold newOk;rw [dF (by rw [List.length_map];omega)];rfl)) [1,1] 1 U U U U
 ·refine Zre (.t U (.t U .n)) (hS.2 (by unfold newOk;rw [dF (p:=(cdsOf l).length≤4) (by rw [List.length_map];omega)];simp)) [1,1] 1 U U U U
 ·refine Zk (c72 1024 hmx) [] U U<|fun b=>Zq<|Za 5 [2] U U<|Ze (es 1 U U U U U)<|Zw0<|Znl ?_
  refine Zxq<|Zsr<|Zm U<|Zv (sl_of ⟨_,Tryz.underlying22⟩ U)<|Zm U<|Znb ?_
  refine Zic (fun _ hs=>sep_nil (E:=ptrE 74) hs) ?_
  refine Zic (fun _ hs=>sep_nil (E:=ptrE 80) hs) ?_
  refine Zic (fun _ hs=>many_nil (F:=fun x:Nat × Cor=>corC 0 x.1 x.2) hs) ?_
  refine Zic (fun _ hs=>many_nil (F:=fun x:Nat × CD=>cacC x.1 x.2) hs) ?_
  refine Zlq (ι:={ p:Cpy // NwI l sets ways p }) (fun p=>[(47,.int .i64 (p.1.i:Int)),(46,.int .i64 (l.length:Int)),(45,.slice A l.length cap),(1,pt bi),(2,.int .i64 sets),(3,.int .i64 ways),(12,pt b37)]) (fun p=>[.blk b37 108 [.slice p.1.A p.1.nb.length p.1.cap,.slice p.1.B p.1.nk.length p.1.capb,pt b,pt b'],.hp (own (ptrE 74) p.1.A p.1.cap p.1.nb),.hp (own (ptrE 80) p.1.B p.1.capb p.1.nk),.hp (corsC 0 (p.1.nb.zip ((newM (cdsOf l) bs sets ways).C.take p.1.i))),.hp (cacsC (p.1.nk.zip ((newM (cdsOf l) bs sets ways).D.take p.1.i))),.hp (imgC bi bs),c]) (fun p=>l.length-p.1.i) ⟨⟨0,none,0,none,0,[],[]⟩,⟨Nat.zero_le _,U,U,fun h=>absurd h (Nat.lt_irrefl 0),fun j _ h=>absurd h (Nat.not_lt_zero j)⟩⟩ ⟨U,U,U,U,U,U,U,trivial⟩ [5,3,2,1,0,2,2] U fun p=>Zsr<|Zv (ylt U U)<|Znq<|Zif U (fun h48=>?_) (fun h48=>?_)
  refine Zkn<|Zsq<|Zbl<|Zsr<|Zm U<|Zv (yea 6 hRc U U U (by first | assumption | omega) U Tryz.underlying22 U) ?_
  rotate_left
  refine Zex<|Zxt<|Zxt<|Zxx<|Zxs<|Zm U<|Zv (yb l104 U)<|Ze (ebx U) fun b96=>Zw<|Zy U ?_
  refine Zy U<|Znr ?_
  rotate_left
  ·have hI:=p.2
   have hlt:p.1.i<l.length:=by omega
   have hmem:=List.getElem_mem hlt
   have hRw:=hC.w _ hmem
   have hzw:=hC.z _ hmem
   have hnw:=hC.n _ hmem
   have huw:=hC.u _ hmem
   have hi4:((p.1.i:Nat):Int)<4:=by omega
   have hi0:(0:Int)≤((p.1.i:Nat):Int):=by omega
   refine Zv (yec (m:=0) 6 hRc U (gE (by first | assumption | omega)) U U U)<|Zb 2 U<|Zns<|Zb 3 U<|Zk (c74 ..) [5] U U ?_
   refine Zq ?_
   refine Zk (c73u ((p.1.i:Nat):Int) c l[p.1.i].1 l[p.1.i].2.1 l[p.1.i].2.2 (bs.length:Int) hi0 hi4 hRw hzw hnw huw) [6] U U<|⟨?_,?_⟩
   refine fun a=>fun b_1=>Zq <| Zv (ym rfl) <| Zv (yx rfl rfl) <| Zv (yx rfl rfl) <| Zv (ya rfl) <| Zv (ya rfl) <| Znl <| Znx ?_
   refine Zsr<|Zb 3 U ?_
   rotate_left
   refine fun a=>Zq <| Zv (ym rfl) <| Zv (yx rfl rfl) <| Zv (yx rfl rfl) <| Zv (ya rfl) <| Zv (ya rfl) <| Znl <| Znx <| Zsr ?_
   refine Zb 3 U ?_
   rotate_left
   ·refine Zk (c75z ((p.1.i:Nat):Int) sets ways hi0 hi4) [] U U<|⟨?_,?_⟩
    refine fun a_1=>fun b_2=>Zq <| Zv (ym rfl) <| Zv (yx rfl rfl) <| Zv (yx rfl rfl) <| Zv (ya rfl) <| Zv (ya rfl) <| Znl <| Znx ?_
    refine Zsq<|Zsr<|Zb 6 U ?_
    refine Zn<|Zcf U<|Zkn ?_
    rotate_left
    refine fun a_1=>Zq <| Zv (ym rfl) <| Zv (yx rfl rfl) <| Zv (yx rfl rfl) <| Zv (ya rfl) <| Zv (ya rfl) <| Znl <| Znx <| Zsq ?_
    refine Zsr<|Zb 6 U<|Znl ?_
    refine Znx<|Zct U<|Zsr<|Zb 2 U<|Znr<|Zr1<|Zr2 ?_
    refine Zr1<|Zr1<|Zr2<|Zr1 ?_
    rotate_left
    ·have hCi:=newM_C (bs:=bs) (sets:=sets) (ways:=ways) hlt
     have hDi:=newM_D (bs:=bs) (sets:=sets) (ways:=ways) hlt
     have hI1:=hI.nb
     have hI2:=hI.nk
     have hm1:p.1.nb.length+1≤maxLen:=Nat.le_trans (show _≤1048576 by omega) (by decide)
     have hm2:p.1.nk.length+1≤maxLen:=Nat.le_trans (show _≤1048576 by omega) (by decide)
     have hN:∀ A' cap' B' capb',NwI l sets ways ⟨p.1.i+1,A',cap',B',capb',p.1.nb++[b_1],p.1.nk++[b_2]⟩:=fun _ _ _ _=>⟨hlt,by rw [List.length_append,hI1];rfl,by rw [List.length_append,hI2];rfl,fun _=>a_1,fun j hj hji=>by
      rcases Nat.lt_or_ge j p.1.i with h | h
      ·exact hI.k j hj h
      ·have:j=p.1.i:=by
        have:j<p.1.i+1:=hji
        omega
       subst this
       exact a.1⟩
     refine Zhu_ 16 1 [5,5] U U U U<|Zht 0 U (ym U)<|Zht 2 U (ym U)<|Zht 3 U (yn U)<|Zht 4 U (yf 0 U)<|Zht 5 U (yd 4 U U U)<|Zht 6 U (ym U)<|Zht 9 U (ym U)<|Zht 10 U (yn U)<|Zht 11 U (yf 1 U) ?_
     refine Zht 12 U (yd 4 U U U)<|Zht 13 U (ym U)<|ZH2 7 14 (Zoe U (ebp elCor U) fun A80=>Zwh 3 U ?_) (Zoe U (ebp elCac U) fun A87=>Zwh 3 U ?_)
     rotate_left
     refine ZH1 7<|Zoe U (ebp elCor U) fun A80=>Zwh 4 U ?_
     rotate_left
     ·refine ZH2 8 14 (Zoe U (eap' 1 0 elCor U U U own.rd U U U (fun _ _=>U) (by simp;omega) hm1)<|fun A' cap'=>Zwh 3 U ?_) (Zoe U (ebp elCac U)<|fun A87=>Zwh 4 U ?_)
      ·refine ZH1 14<|Zoe U (ebp elCac U) fun A87=>Zwh 4 U ?_
       refine ZH1 15<|Zoe U (eap' 3 0 elCac U U U own.rd U U U (fun _ _=>U) (by simp;omega) hm2)<|fun B' capb'=>Zwh 4 U<|ZHn<|Ztl U<|Ztv (yn U)<|Ztv (yf 0 U)<|Zte (es 8 U U U U U)<|Ztw<|Ztv (yn U)<|Ztv (yf 1 U)<|Zte (es 8 U U U U U)<|Ztw<|Ztn ?_
       refine Zxn<|Znx<|Zrg<|Zv (yadd U U (i64w U (by omega)))<|Zm U<|Znl ?_
       refine Zfx [4,9] (cacs_snc (b:=b_2) hI.nk hDi) U ?_
       refine Zfx [5,8] (cors_snc (b:=b_1) hI.nb hCi) U ?_
       refine Zlr ⟨⟨p.1.i+1,A',cap',B',capb',p.1.nb++[b_1],p.1.nk++[b_2]⟩,hN A' cap' B' capb'⟩ (by show l.length-(p.1.i+1)<l.length-p.1.i;omega) ⟨U,U,U,U,U,U,U,trivial⟩ [8,4,4,0,0,3,2] 2 U U
      ·refine ZH1 8<|Zoe U (eap' 2 1 elCor U U U own.rd U U U (fun _ _=>U) (by simp;omega) hm1)<|fun A' cap'=>Zwh 4 U ?_
       refine ZH1 15<|Zoe U (eap' 3 0 elCac U U U own.rd U U U (fun _ _=>U) (by simp;omega) hm2)<|fun B' capb'=>Zwh 4 U<|ZHn<|Ztl U<|Ztv (yn U)<|Ztv (yf 0 U)<|Zte (es 8 U U U U U)<|Ztw<|Ztv (yn U)<|Ztv (yf 1 U)<|Zte (es 8 U U U U U)<|Ztw<|Ztn ?_
       refine Zxn<|Znx<|Zrg<|Zv (yadd U U (i64w U (by omega)))<|Zm U<|Znl ?_
       refine Zfx [4,9] (cacs_snc (b:=b_2) hI.nk hDi) U ?_
       refine Zfx [5,8] (cors_snc (b:=b_1) hI.nb hCi) U ?_
       refine Zlr ⟨⟨p.1.i+1,A',cap',B',capb',p.1.nb++[b_1],p.1.nk++[b_2]⟩,hN A' cap' B' capb'⟩ (by show l.length-(p.1.i+1)<l.length-p.1.i;omega) ⟨U,U,U,U,U,U,U,trivial⟩ [8,4,4,0,0,3,2] 2 U U
     ·refine ZH1 8<|Zoe U (eap' 2 0 elCor U U U own.rd U U U (fun _ _=>U) (by simp;omega) hm1)<|fun A' cap'=>Zwh 4 U ?_
      refine ZH1 15<|Zoe U (eap' 3 1 elCac U U U own.rd U U U (fun _ _=>U) (by simp;omega) hm2)<|fun B' capb'=>Zwh 4 U<|ZHn<|Ztl U<|Ztv (yn U)<|Ztv (yf 0 U)<|Zte (es 8 U U U U U)<|Ztw<|Ztv (yn U)<|Ztv (yf 1 U)<|Zte (es 8 U U U U U)<|Ztw<|Ztn ?_
      refine Zxn<|Znx<|Zrg<|Zv (yadd U U (i64w U (by omega)))<|Zm U<|Znl ?_
      refine Zfx [4,9] (cacs_snc (b:=b_2) hI.nk hDi) U ?_
      refine Zfx [5,8] (cors_snc (b:=b_1) hI.nb hCi) U ?_
      refine Zlr ⟨⟨p.1.i+1,A',cap',B',capb',p.1.nb++[b_1],p.1.nk++[b_2]⟩,hN A' cap' B' capb'⟩ (by show l.length-(p.1.i+1)<l.length-p.1.i;omega) ⟨U,U,U,U,U,U,U,trivial⟩ [8,4,4,0,0,3,2] 2 U U
    ·refine Zre (.t U (.t U .n)) (hS.2 (newOk_no2 a_1)) [2,1] 8 U U U U
   ·refine Zk (c75z ((p.1.i:Nat):Int) sets ways hi0 hi4) [] U U<|⟨?_,?_⟩
    refine fun a_1=>fun b_1=>Zq <| Zv (ym rfl) <| Zv (yx rfl rfl) <| Zv (yx rfl rfl) <| Zv (ya rfl) <| Zv (ya rfl) <| Znl <| Znx ?_
    refine Zsq<|Zsr<|Zb 6 U<|Zn ?_
    refine Zct U<|Zsr<|Zb 2 U<|Znr<|Zr1<|Zr2<|Zr1 ?_
    refine Zr1<|Zr2<|Zr1 ?_
    rotate_left
    refine fun a_1=>Zq <| Zv (ym rfl) <| Zv (yx rfl rfl) <| Zv (yx rfl rfl) <| Zv (ya rfl) <| Zv (ya rfl) <| Znl <| Znx <| Zsq ?_
    refine Zsr<|Zb 6 U<|Zn<|Zct U ?_
    refine Zsr<|Zb 2 U<|Znr<|Zr1<|Zr2<|Zr1<|Zr1 ?_
    refine Zr2<|Zr1 ?_
    rotate_left
    ·refine Zre (.t U (.t U .n)) (hS.2 (newOk_no1 hlt fun h=>a ⟨h,by omega,by omega⟩)) [2,1] 8 U U U U
    ·refine Zre (.t U (.t U .n)) (hS.2 (newOk_no1 hlt fun h=>a ⟨h,by omega,by omega⟩)) [1,0] 7 U U U U
  ·have hI:=p.2
   have hI0:=hI.i
   have hI1:=hI.nb
   have hI2:=hI.nk
   have hCl:(newM (cdsOf l) bs sets ways).C.length=l.length:=by simp [newM]
   have hDl:(newM (cdsOf l) bs sets ways).D.length=l.length:=by simp [newM,cachesF]
   rw [show (newM (cdsOf l) bs sets ways).C.take p.1.i=(newM (cdsOf l) bs sets ways).C from List.take_of_length_le (by omega),show (newM (cdsOf l) bs sets ways).D.take p.1.i=(newM (cdsOf l) bs sets ways).D from List.take_of_length_le (by omega)]
   have okN:(newM (cdsOf l) bs sets ways).Ok 0:=⟨by omega,by omega,by omega,by show (1:Int)≤1024;decide,by show (1024:Int)≤1024;decide,by show ((0:Nat):Int)≤1024;decide⟩
   have hy:=newOk_yes (l:=l) (by omega) (by omega) (hI.r (by omega)) (fun j h=>hI.k j h (by omega))
   refine Zfx [1,1,1,1,1,3,3] (part_fold (b:=b37) (bn:=b) (bh:=b') (m:=newM (cdsOf l) bs sets ways) okN ⟨by omega,by omega⟩) U ?_
   refine Zfx [1,0] (mach_fold (b:=b96) (m:=newM (cdsOf l) bs sets ways)) U ?_
   refine Zre (.t U (.t U .n)) (hS.1 hy _) [0,0,0] 0 U U U U
structure Wld where
 A:Option Addr
 cap:Nat
 l:List (Option Addr × Nat × List Int)
 B:Option Addr
 capb:Nat
 bs:List Int
 sets:Int
 ways:Int
def Wld.cells (x:Wld):List Value:=[.slice x.A x.l.length x.cap,.slice x.B x.bs.length x.capb,.int .i64 x.sets,.int .i64 x.ways]
structure Wld.In (c:Ck) (x:Wld):Prop where
 cds:Cds c x.A x.cap x.l
 b:Rd u8E c x.B x.capb x.bs
 r:∀ a∈x.bs,0≤a∧a<256
def Wld.ok (x:Wld):Bool := !szF x.bs.length && newOk (cdsOf x.l) x.sets x.ways
def Wld.m (x:Wld):MD:=newM (cdsOf x.l) x.bs x.sets x.ways
theorem c7 (c:Ck) (x:Wld) (h:x.In c):Sp Tryz.prog 7 [.agg x.cells.toArray] [c] fun K=>(x.ok=true→∀ b bi,K (.returned (.tuple #[pt b,pt bi])) [.hp (machC 0 b x.m),.hp (imgC bi x.bs),c])∧(x.ok=false→K (.returned (.tuple #[.pointer none,.pointer none])) [c]):=by
 have hb:=h.b
 refine Zen Tryz.func7 U U U fun e X Φ hS=>Zsr<|Ze (ebx U) fun b1=>Zw<|Zb 2 U<|Zns<|Za 2 [1,0] U U ?_
 refine Zk (c31 c x.B x.capb x.bs hb) [1] U U<|⟨?_,?_⟩
 refine fun a=>Zq <| Zv (ym rfl) <| Zv (yx rfl rfl) <| Zv (yx rfl rfl) <| Zv (ya rfl) <| Zv (ya rfl) <| Znl <| Znx <| Zsq ?_
 refine Zsr<|Zb 2 U<|Zn<|Zct U<|Zsr<|Zb 2 U<|Znl ?_
 refine Zxr<|Zr1 ?_
 rotate_left
 refine fun a=>fun b=>Zq <| Zv (ym rfl) <| Zv (yx rfl rfl) <| Zv (yx rfl rfl) <| Zv (ya rfl) <| Zv (ya rfl) <| Znl <| Znx ?_
 refine Zsq<|Zsr<|Zb 2 U<|Zn<|Zcf U<|Zks ?_
 refine Za 7 [0,2,2,2,3,2] U U ?_
 rotate_left
 ·refine Zre (.t U (.t U .n)) (hS.2 (by unfold Wld.ok;rw [a];rfl)) [0] 1 U U U U
 ·refine Zk (c32 c x.A x.cap x.l b x.bs x.sets x.ways h.cds a h.r) [0,0] U U<|⟨?_,?_⟩
  refine fun a_1=>fun b_1=>Zq <| Zv (ym rfl) <| Zv (yx rfl rfl) <| Zv (yx rfl rfl) <| Zv (ya rfl) <| Zv (ya rfl) <| Znl <| Znx ?_
  refine Zsq<|Zsr<|Zb 2 U<|Zn<|Zcf U<|Zks ?_
  refine Zb 4 U<|Znr ?_
  rotate_left
  refine fun a_1=>Zq <| Zv (ym rfl) <| Zv (yx rfl rfl) <| Zv (yx rfl rfl) <| Zv (ya rfl) <| Zv (ya rfl) <| Znl <| Znx <| Zsq ?_
  refine Zsr<|Zb 2 U<|Zn<|Zct U<|Zsr<|Zb 2 U<|Znl ?_
  refine Zxr<|Zr1 ?_
  rotate_left
  ·refine Zre (.t U (.t U .n)) (hS.1 (by unfold Wld.ok;rw [a,a_1];rfl) _ _) [0,0,0] 1 U U U U
  ·refine Zre (.t U (.t U .n)) (hS.2 (by unfold Wld.ok;rw [a,a_1];rfl)) [1] 2 U U U U
structure Wld.Few (x:Wld) (n:Nat):Prop where
 b:x.bs.length≤128
 n:n≤200
theorem c8 (c:Ck) (x:Wld) (h:x.In c) (C:Option Addr) (capc n:Nat):Sp Tryz.prog 8 [.agg x.cells.toArray,.slice C n capc] [c] fun K=>K (.returned (.bool true)) [c]∧(x.Few n→K (.returned (.bool false)) [c]):=by
 have hRc:=h.cds.r
 refine Zen Tryz.func8 U U U fun e X Φ hS=>Zsr<|Ze (ebx U) fun b2=>Zw<|Zy U<|Zns<|Zy U<|Zn ?_
 refine Zsq<|Zsr<|Zy U<|Znb ?_
 refine Zlq (ι:={ p:Nat × Int // p.1≤x.l.length∧p.1≤8 }) (fun p=>[(6,.int .i64 (p.1.1:Int)),(5,.int .i64 p.1.2),(2,pt b2),(1,.slice C n capc)]) (fun _=>[.blk b2 25 x.cells,c]) (fun p=>8-p.1.1) ⟨(0,0),Nat.zero_le _,Nat.zero_le _⟩ ⟨U,U,U,U,trivial⟩ [0,0] U fun p=>Zsq<|Zsr<|Za 3 [0,0] U U<|Zv (sl_of ⟨_,Tryz.underlying22⟩ U)<|Zb 2 U<|Zgs U U (fun h12=>?_) (fun h12=>?_)
 refine Zg' U U (dT h12)<|Zm U<|Zg' U U (dT h12)<|Zv (ylt U U)<|Zv (ypt' U (dT h12) U)<|Zn<|Zif U (fun h15=>?_) (fun h15=>?_)
 refine Zkn<|Zsq<|Zbl<|Zsr<|Za 4 [0,0] U U<|Zv (yea 1 hRc U U U (by first | assumption | omega) U Tryz.underlying22 U) ?_
 refine Zv (yec (m:=0) 1 hRc U (gE (by first | assumption | omega)) U U U)<|Zv (sl_of ⟨_,Tryz.underlying62⟩ U)<|Zv (yadd U U U)<|Zy U<|Zns<|Zb 2 U<|Znl ?_
 refine Znx<|Zif U (fun h27=>?_) (fun h27=>?_)
 refine Zsr<|Zy U<|Znr<|Zr2<|Zr1<|Zr1<|Zr2<|Zr1 ?_
 rotate_left
 refine Zsk<|Zxn<|Znx<|Zrg<|Zm U<|Zv (yadd U U (i64w U (by omega)))<|Zy U<|Znl ?_
 rotate_left
 refine Zex<|Zxt<|Zxt<|Zxx<|Zxs<|Za 2 [1,0] U U<|Zv (sl_of ⟨_,Tryz.underlying23⟩ U)<|Zv (ygt U U) ?_
 refine Zm U<|Zgs U U (fun h32=>?_) (fun h32=>?_)
 refine Zu' U U (dT h32) U<|Zu' U U (dT h32) U<|Zu' U U (dT h32) U<|Zv (ypt' U (dT h32) U)<|Zy U<|Znr ?_
 rotate_left
 refine Zg' U U (dF h32)<|Zm U<|Zg' U U (dF h32)<|Zv (sl_of ⟨_,Tryz.underlying26⟩ U)<|Zg' U U (dF h32)<|Zv (ygt U U)<|Zv (ypf' U (dF h32) U)<|Zy U<|Zn ?_
 refine Zrt ?_
 rotate_left
 refine Zu' U U (dF h12) U<|Zu' U U (dF h12) U<|Zv (ypf' U (dF h12) U)<|Zn<|Zcf U<|Zex<|Zxt<|Zxt<|Zxx ?_
 refine Zxs<|Za 2 [1,0] U U<|Zv (sl_of ⟨_,Tryz.underlying23⟩ U)<|Zb 2 U<|Zgs U U (fun h32=>?_) (fun h32=>?_)
 refine Zu' U U (dT h32) U<|Zu' U U (dT h32) U<|Zu' U U (dT h32) U<|Zv (ypt' U (dT h32) U)<|Zy U<|Znr ?_
 rotate_left
 refine Zg' U U (dF h32)<|Zm U<|Zg' U U (dF h32)<|Zv (sl_of ⟨_,Tryz.underlying26⟩ U)<|Zg' U U (dF h32)<|Zv (ygt U U)<|Zv (ypf' U (dF h32) U)<|Zy U<|Zn ?_
 refine Zrt ?_
 rotate_left
 ·refine Zre (.t U .n) hS.1 [1] 1 U U U U
 ·refine Zlr ⟨(p.1.1+1,_),by show p.1.1+1≤_∧p.1.1+1≤8;omega⟩ (by show 8-(p.1.1+1)<8-p.1.1;omega) ⟨U,U,U,U,trivial⟩ [0,0] 0 U U
 ·refine Zre (.t U .n) hS.1 [1] 1 U U U U
 ·by_cases hn:(200:Int)<n
  ·rw [dT hn]
   refine Zre (.t U .n) hS.1 [1] 1 U U U U
  ·rw [dF hn]
   refine Zre (.t U .n) (hS.2 ⟨by omega,by omega⟩) [1] 1 U U U U
 ·refine Zre (.t U .n) hS.1 [1] 1 U U U U
 ·by_cases hn:(200:Int)<n
  ·rw [dT hn]
   refine Zre (.t U .n) hS.1 [1] 1 U U U U
  ·rw [dF hn]
   refine Zre (.t U .n) (hS.2 ⟨by omega,by omega⟩) [1] 1 U U U U
theorem newM_in {cs:List (List Int)} {bs:List Int} {sets ways:Int} (h:newOk cs sets ways=true):(newM cs bs sets ways).In∧(newM cs bs sets ways).C.length≤4:=by
 unfold newOk at h
 simp only [Bool.and_eq_true,decide_eq_true_eq] at h
 have h1:=h.1.1.1
 have h4:=h.1.1.2
 have hC:(newM cs bs sets ways).C.length=cs.length:=by simp [newM]
 refine ⟨⟨fun i d hd=>?_,by simp [newM,cachesF],by omega,fun y hy=>(by cases hy),fun i=>?_⟩,by omega⟩
 ·have hd:((List.range cs.length).map fun i=>newD (i:Nat) sets.toNat ways)[i]? = some d:=hd
  rw [List.getElem?_map] at hd
  cases hr:(List.range cs.length)[i]? with
  | none=>rw [hr] at hd;cases hd
  | some j=>
   rw [hr] at hd
   obtain ⟨_,hj⟩:=List.getElem?_eq_some_iff.1 hr
   rw [List.getElem_range] at hj
   subst hj
   cases hd
   rfl
 ·show EnIn _ (entOf (List.replicate _ ent0) i)
  rw [ent_rep]
  exact en0 (by omega)
theorem c77 (c:Ck) (A:Option Addr) (cap b1:Nat) (l:List Int) (hR:Rd u8E c A cap l) (hl:l.length=4) (hr:∀ a∈l,0≤a∧a<256):Sp Tryz.prog 77 [.slice A l.length cap,pt b1] [.blk b1 40 [.int .u32 0],c] fun K=>K (.returned (.tuple #[])) [.blk b1 40 [.int .u32 (rdR l 0 l.length)],c]:=by
 refine Zen Tryz.func77 U U U fun e X Φ hS=>Zsr<|Zm U<|Zv (sl_of ⟨_,Tryz.underlying23⟩ U)<|Zm U<|Znb ?_
 refine Zlq (ι:={ i:Nat // i≤l.length }) (fun i=>[(7,.int .i64 (i.1:Int)),(6,.int .i64 (l.length:Int)),(5,.slice A l.length cap),(1,pt b1)]) (fun i=>[.blk b1 40 [.int .u32 (rdR l 0 i.1)],c]) (fun i=>l.length-i.1) ⟨0,by omega⟩ ⟨U,U,U,U,trivial⟩ [0,0] U fun i=>Zsr<|Zv (ylt U U)<|Znq<|Zif U (fun h8=>?_) (fun h8=>?_)
 refine Zkn<|Zsq<|Zbl<|Zsr<|Zm U<|Zv (yea 1 hR U U U (by first | assumption | omega) U Tryz.underlying23 U)<|Zv (yec (m:=0) 1 hR U (gE (by first | assumption | omega)) U U U)<|Zb 2 U ?_
 refine Zn<|Zhe 7 U<|Zht 0 U (yd 0 U U U)<|Zht 1 U (ym U)<|Zht 2 U (ycv Tryz.underlying5 Tryz.underlying40 U U)<|Zht 3 U (ym U)<|Zht 4 U (ymul U U (i64w U (by omega)))<|Zht 5 U (yshl U U (by omega) U)<|Zht 6 U (yor U U U) ?_
 refine ZHn<|Ztl U<|Zte (es 0 U U U U U)<|Ztw<|Ztn<|Zxn<|Znx<|Zrg<|Zv (yadd U U (i64w U (by omega)))<|Zm U<|Znl ?_
 rotate_left
 refine Zex<|Zxt<|Zxt<|Zxx<|Zee ?_
 rotate_left
 ·have hb:=hr _ (List.getElem_mem (show i.1<l.length by omega))
  have e1:l.getD (0+i.1) 0=l[i.1]:=by simp [List.getD,show i.1<l.length by omega]
  rw [← e1] at hb ⊢
  have e2:IntKind.u32.wrap (l.getD (0+i.1) 0)=l.getD (0+i.1) 0:=u32w rfl (by omega)
  have e3:min (8*(i.1:Int)).toNat IntKind.u32.bits=min (8*i.1) 32:=by
   rw [show (8*(i.1:Int)).toNat=8*i.1 by omega]
   rfl
  rw [e2,e3,show IntKind.u32.wrap ((BitVec.ofInt IntKind.u32.bits (rdR l 0 i.1) ||| BitVec.ofInt IntKind.u32.bits (IntKind.u32.wrap (l.getD (0+i.1) 0*2 ^ min (8*i.1) 32))).toNat:Int)=rdR l 0 (i.1+1) from rfl]
  refine Zlr ⟨i.1+1,by omega⟩ (by show l.length-(i.1+1)<l.length-i.1;omega) ⟨U,U,U,U,trivial⟩ [0,0] 0 U U
 ·have hi:i.1=l.length:=by have:=i.2;omega
  rw [hi]
  refine Zre .n hS [0,0] 0 U U U U
theorem c76 (b b1:Nat) (l:List Int) (hl:16≤l.length) (hl2:l.length≤1048576) (hr:∀ a∈l,0≤a∧a<256):Sp Tryz.prog 76 [pt b,.int .u32 0,.int .i64 4,.func (.func 77) #[] #[pt b1]] [.hp (imgC b l),.blk b1 40 [.int .u32 0]] fun K=>K (.returned (.int .i64 0)) [.hp (imgC b l),.blk b1 40 [.int .u32 (rdR (l.take 4) 0 4)]]:=by
 have hl4:((l.take 4).drop 0).length=4:=by simp;omega
 have hr4:∀ a∈(l.take 4).drop 0,0≤a∧a<256:=fun a ha=>hr a (List.mem_of_mem_take (List.mem_of_mem_drop ha))
 refine Zen Tryz.func76 U U U fun e X Φ hS=>Zsr<|Zy U<|Zns<|Ze (emk .i64) fun r11=>Zw<|Ze (ein 0 U U U U U U Tryz.underlying241 Tryz.underlying3)<|Zw0<|Ze (ein 0 U U U U U U Tryz.underlying241 Tryz.underlying3)<|Zw0<|Ze (ein 0 U U U U U U Tryz.underlying241 Tryz.underlying3)<|Zw0 ?_
 refine Zb 2 U<|Znq<|Zbl<|Zsr<|Zm U<|Zk (c57 ..) [1] U U<|Zq ?_
 refine Zy U<|Zn<|Zcf U<|Zsr<|Zb 2 U<|Zv (ylk 1 U U U Tryz.underlying241 Tryz.underlying3 zv4)<|Zb 2 U ?_
 refine Zn<|Zcf U<|Zsr<|Zb 2 U<|Zv (ycv Tryz.underlying3 Tryz.underlying40 U (u32w U (by omega)))<|Zv (yrem U U (by decide) U)<|Zb 2 U ?_
 refine Zn<|Zcf U<|Zsr<|Za 4 [0] U U ?_
 refine Zol 0 img_op U<|fun h0 g o cap hcp=>Zv (yd 0 U U U)<|Zv (sl_of ⟨_,Tryz.underlying23⟩ U)<|Zv (ycv Tryz.underlying3 Tryz.underlying40 U (u32w U (by omega)))<|Zb 2 U<|Zn<|Zcf' U (dF (by omega))<|Zsk ?_
 refine Zxn<|Zxs<|Zm U<|Zv (ycv Tryz.underlying40 Tryz.underlying3 U (i64w U (by omega)))<|Zy U<|Zns<|Zm U ?_
 refine Za 7 [0,0] U U<|Zv (yadd (s:=4) U U U)<|Zb 2 U ?_
 refine Zv (yadd (s:=4) U U U) ?_
 refine Zv (yslf (i:=0) (j:=4) (m:=4) 1 Tryz.underlying23 U U U U (by omega) (by omega) (by omega) (n1:=4) (c1:=4) (by omega) (by omega)) ?_
 have hR4:=Rd.cut (i:=0) (j:=4) (own.rd (E:=u8E) (A:=some ⟨g,o,none⟩) (cap:=cap) (l:=l)) (by omega) (by omega)
 rw [show Value.slice (cutA (some ⟨g,o,none⟩) 4 0 1) 4 4 = .slice (cutA (some ⟨g,o,none⟩) 4 0 u8E.n) ((l.take 4).drop 0).length (4-0) by rw [hl4];rfl]
 refine Zkv (c77 (.hp (own u8E (some ⟨g,o,none⟩) cap l)) (cutA (some ⟨g,o,none⟩) 4 0 u8E.n) (4-0) b1 ((l.take 4).drop 0) hR4 hl4 hr4) [3,1] U U U U<|Zq<|Zns<|Zy U<|Znr ?_
 rw [hl4,List.drop_zero]
 refine Zfx [2,1] (img_fold (b:=b) (l:=l) h0) U<|Zre (.t U .n) hS [0,0] 1 U U U U
theorem c34 (b:Nat) (l:List Int) (hl:16≤l.length) (hl2:l.length≤1048576) (hr:∀ a∈l,0≤a∧a<256):Sp Tryz.prog 34 [pt b,.int .u32 0,.int .i64 4] [.hp (imgC b l)] fun K=>K (.returned (.tuple #[.int .u32 (rdR (l.take 4) 0 4),.int .i64 0])) [.hp (imgC b l)]:=by
 refine Zen Tryz.func34 U U U fun e X Φ hS=>Zsr<|Zb 2 U<|Zns<|Ze (eal z40) fun b8=>Zw<|Ze (es 0 U U U U U)<|Zw0<|Znl ?_
 refine Zxs<|Zb 3 U<|Zv (yfn U U) ?_
 refine Zk (c76 b b8 l hl hl2 hr) [1,0] U U<|Zq<|Zy U<|Zns<|Za 4 [1] U U ?_
 refine Znr<|Zre (.t U (.t U .n)) hS [0] 1 U U U U
theorem zz4 {zz:Array Value} (h:zz.size=4):∃ a b c d,zz=#[a,b,c,d]:=by
 rcases zz with ⟨l⟩
 match l,h with
 | [a,b,c,d],_=>exact ⟨a,b,c,d,rfl⟩
section
variable {N:Nat × List Deferred} {T:Tb} {e:World} {L:List Ck} {x x0 x1 x2 x3:Operand} {ty:TypeId} {pos:String} {af:Array Edge} {g:Option (Nat × Bool)} {dd:Option Nat}
theorem ebu4 {a b c d:Int} (h0:evT T x0=some (.int .u32 a)) (h1:evT T x1=some (.int .u32 b)) (h2:evT T x2=some (.int .u32 c)) (h3:evT T x3=some (.int .u32 d)):Ef Tryz.prog N T e L ⟨dd,.buildSlice 62 4 #[(0,x0),(1,x1),(2,x2),(3,x3)],ty,pos,af,g⟩ fun K=>∀ A,K (some (.slice A 4 4)) (.hp (own u32E A 4 [a,b,c,d])::L):=fun ac w fr hp G kk => .inl (by
 obtain ⟨i,z,hi,hz,hsz,hby,hzc⟩:=elU32.info
 have hs1:i.size=1:=hsz
 refine ⟨.slice (some ⟨w.heap.size,0,none⟩) 4 4,w.alloc (.cells #[.int .u32 a,.int .u32 b,.int .u32 c,.int .u32 d] 40),?_,kk _ _ (hp.ownNew ((Only.refl _ w).alloc _) ⟨by simp,by decide,.inr ⟨_,0,_,rfl,Go.heap_alloc_new w _,by simp [u32E,intE],by simp [u32E,intE]⟩⟩ inA_new)⟩
 have hfill:Instr.fill (fun q=>some (q*i.size,i.size)) ((Array.range (4*i.size)).map (z.cells[· % z.cells.size]!)) [(0,.int .u32 a),(1,.int .u32 b),(2,.int .u32 c),(3,.int .u32 d)]=some #[.int .u32 a,.int .u32 b,.int .u32 c,.int .u32 d]:=by
  rw [hs1]
  generalize hzz:(Array.range (4*1)).map (z.cells[· % z.cells.size]!)=zz
  obtain ⟨_,_,_,_,rfl⟩:=zz4 (zz:=zz) (by rw [← hzz];simp)
  rfl
 have:=run_buildSlice (P:=Tryz.prog) w 62 40 4 #[(0,.int .u32 a),(1,.int .u32 b),(2,.int .u32 c),(3,.int .u32 d)] #[.int .u32 a,.int .u32 b,.int .u32 c,.int .u32 d] i z elU32.ty hi hz (by rw [hs1];omega) (by rw [hs1];omega) hfill
 simp [execOp,fr.evT h0,fr.evT h1,fr.evT h2,fr.evT h3,this])
theorem elSl:ElemI slE 22 24:=⟨Tryz.underlying22,by
 obtain ⟨i0,hi,hz0,hz1,hz2⟩:=info_parts (show (Tryz.prog.info? 62).map (fun i=>(i.zero,i.size,i.bytes))=some (some (.slice none 0 0),1,24) by kernel_rfl)
 exact ⟨i0,_,hi,hz0,hz1,hz2,rfl⟩⟩
theorem ebsl {k:Option Addr × Nat × List Int} (h:evT T x=some (.slice k.1 k.2.2.length k.2.1)):Ef Tryz.prog N T e L ⟨dd,.buildSlice 22 1 #[(0,x)],ty,pos,af,g⟩ fun K=>∀ A,K (some (.slice A 1 1)) (.hp (own slE A 1 [k])::L):=fun a w fr hp G kk => .inl (by
 obtain ⟨i,z,hi,hz,hsz,hby,hzc⟩:=elSl.info
 have hs1:i.size=1:=hsz
 refine ⟨.slice (some ⟨w.heap.size,0,none⟩) 1 1,w.alloc (.cells #[.slice k.1 k.2.2.length k.2.1] 62),?_,kk _ _ (hp.ownNew ((Only.refl _ w).alloc _) ⟨by simp,by decide,.inr ⟨_,0,_,rfl,Go.heap_alloc_new w _,by simp [slE],by simp [slE]⟩⟩ inA_new)⟩
 have hfill:Instr.fill (fun q=>some (q*i.size,i.size)) ((Array.range (1*i.size)).map (z.cells[· % z.cells.size]!)) [(0,.slice k.1 k.2.2.length k.2.1)]=some #[.slice k.1 k.2.2.length k.2.1]:=by
  rw [hs1]
  generalize hzz:(Array.range (1*1)).map (z.cells[· % z.cells.size]!)=zz
  have hz1:zz.size=1:=by rw [← hzz];simp
  rcases zz with ⟨_ | ⟨v0,_ | ⟨v1,l⟩⟩⟩
  ·exact absurd hz1 (by simp)
  ·rfl
  ·exact absurd hz1 (by simp)
 have:=run_buildSlice (P:=Tryz.prog) w 22 62 1 #[(0,.slice k.1 k.2.2.length k.2.1)] #[.slice k.1 k.2.2.length k.2.1] i z elSl.ty hi hz (by rw [hs1];omega) (by rw [hs1];omega) hfill
 simp [execOp,fr.evT h,this])
theorem elCho:ElemI choE 26 24:=⟨Tryz.underlying26,by
 obtain ⟨i0,hi,hz0,hz1,hz2⟩:=info_parts (show (Tryz.prog.info? 71).map (fun i=>(i.zero,i.size,i.bytes))=some (some (.agg (choE.arr cho0)),3,24) by kernel_rfl)
 exact ⟨i0,_,hi,hz0,hz1,hz2,by rw [show (Value.agg (choE.arr cho0)).cells=choE.arr cho0 from rfl,choE.size]⟩⟩
def pl7:List (Nat × Nat):=[(0,3),(3,3),(6,3),(9,3),(12,3),(15,3),(18,3)]
theorem pl7_at {i:Nat} {p:Nat × Nat} (h:nth pl7 i=some p):some (i*3,3)=some p:=by
 match i,h with
 | 0,h=>exact h
 | 1,h=>exact h
 | 2,h=>exact h
 | 3,h=>exact h
 | 4,h=>exact h
 | 5,h=>exact h
 | 6,h=>exact h
theorem zz21 {zz:Array Value} (h:zz.size=21):∃ a0 a1 a2 a3 a4 a5 a6 a7 a8 a9 a10 a11 a12 a13 a14 a15 a16 a17 a18 a19 a20,zz=#[a0,a1,a2,a3,a4,a5,a6,a7,a8,a9,a10,a11,a12,a13,a14,a15,a16,a17,a18,a19,a20]:=by
 rcases zz with ⟨l⟩
 match l,h with
 | [a0,a1,a2,a3,a4,a5,a6,a7,a8,a9,a10,a11,a12,a13,a14,a15,a16,a17,a18,a19,a20],_=>exact ⟨a0,a1,a2,a3,a4,a5,a6,a7,a8,a9,a10,a11,a12,a13,a14,a15,a16,a17,a18,a19,a20,rfl⟩
set_option maxRecDepth 20000 in
theorem ebc7 {x4 x5 x6:Operand} {c0 c1 c2 c3 c4 c5 c6:Cho} (h0:evT T x0=some (.agg (choE.arr c0))) (h1:evT T x1=some (.agg (choE.arr c1))) (h2:evT T x2=some (.agg (choE.arr c2))) (h3:evT T x3=some (.agg (choE.arr c3))) (h4:evT T x4=some (.agg (choE.arr c4))) (h5:evT T x5=some (.agg (choE.arr c5))) (h6:evT T x6=some (.agg (choE.arr c6))):Ef Tryz.prog N T e L ⟨dd,.buildSlice 26 7 #[(0,x0),(1,x1),(2,x2),(3,x3),(4,x4),(5,x5),(6,x6)],ty,pos,af,g⟩ fun K=>∀ A,K (some (.slice A 7 7)) (.hp (own choE A 7 [c0,c1,c2,c3,c4,c5,c6])::L):=fun ac w fr hp G kk => .inl (by
 obtain ⟨i,z,hi,hz,hsz,hby,hzc⟩:=elCho.info
 have hs1:i.size=3:=hsz
 refine ⟨.slice (some ⟨w.heap.size,0,none⟩) 7 7,w.alloc (.cells #[.int .i64 c0.kind,.int .i64 c0.hart,.int .i64 c0.pick,.int .i64 c1.kind,.int .i64 c1.hart,.int .i64 c1.pick,.int .i64 c2.kind,.int .i64 c2.hart,.int .i64 c2.pick,.int .i64 c3.kind,.int .i64 c3.hart,.int .i64 c3.pick,.int .i64 c4.kind,.int .i64 c4.hart,.int .i64 c4.pick,.int .i64 c5.kind,.int .i64 c5.hart,.int .i64 c5.pick,.int .i64 c6.kind,.int .i64 c6.hart,.int .i64 c6.pick] 71),?_,kk _ _ (hp.ownNew ((Only.refl _ w).alloc _) ⟨by simp,by decide,.inr ⟨_,0,_,rfl,Go.heap_alloc_new w _,by simp [choE],by simp [choE,Cho.cells]⟩⟩ inA_new)⟩
 have hfill:Instr.fill (fun q=>some (q*i.size,i.size)) ((Array.range (7*i.size)).map (z.cells[· % z.cells.size]!)) [(0,.agg (choE.arr c0)),(1,.agg (choE.arr c1)),(2,.agg (choE.arr c2)),(3,.agg (choE.arr c3)),(4,.agg (choE.arr c4)),(5,.agg (choE.arr c5)),(6,.agg (choE.arr c6))]=some #[.int .i64 c0.kind,.int .i64 c0.hart,.int .i64 c0.pick,.int .i64 c1.kind,.int .i64 c1.hart,.int .i64 c1.pick,.int .i64 c2.kind,.int .i64 c2.hart,.int .i64 c2.pick,.int .i64 c3.kind,.int .i64 c3.hart,.int .i64 c3.pick,.int .i64 c4.kind,.int .i64 c4.hart,.int .i64 c4.pick,.int .i64 c5.kind,.int .i64 c5.hart,.int .i64 c5.pick,.int .i64 c6.kind,.int .i64 c6.hart,.int .i64 c6.pick]:=by
  rw [hs1]
  generalize hzz:(Array.range (7*3)).map (z.cells[· % z.cells.size]!)=zz
  obtain ⟨_,_,_,_,_,_,_,_,_,_,_,_,_,_,_,_,_,_,_,_,_,rfl⟩:=zz21 (zz:=zz) (by rw [← hzz];simp)
  exact fill_bl pl7 _ (fun i p hp=>pl7_at hp) _ _ (by repeat' first | exact trivial | exact rfl | constructor)
 have:=run_buildSlice (P:=Tryz.prog) w 26 71 7 #[(0,.agg (choE.arr c0)),(1,.agg (choE.arr c1)),(2,.agg (choE.arr c2)),(3,.agg (choE.arr c3)),(4,.agg (choE.arr c4)),(5,.agg (choE.arr c5)),(6,.agg (choE.arr c6))] #[.int .i64 c0.kind,.int .i64 c0.hart,.int .i64 c0.pick,.int .i64 c1.kind,.int .i64 c1.hart,.int .i64 c1.pick,.int .i64 c2.kind,.int .i64 c2.hart,.int .i64 c2.pick,.int .i64 c3.kind,.int .i64 c3.hart,.int .i64 c3.pick,.int .i64 c4.kind,.int .i64 c4.hart,.int .i64 c4.pick,.int .i64 c5.kind,.int .i64 c5.hart,.int .i64 c5.pick,.int .i64 c6.kind,.int .i64 c6.hart,.int .i64 c6.pick] i z elCho.ty hi hz (by rw [hs1];omega) (by rw [hs1];omega) hfill
 simp [execOp,fr.evT h0,fr.evT h1,fr.evT h2,fr.evT h3,fr.evT h4,fr.evT h5,fr.evT h6,this])
end
abbrev code1:List Int:=[5243027,1056803,8451,115]
def world1 (A A2 B:Option Addr):Wld:=⟨A,1,[(A2,4,code1)],B,16,List.replicate 16 0,1,1⟩
def world1P (A A2 B:Option Addr):HP:=Sep [.hp (own slE A 1 [(A2,4,code1)]),.hp (own u32E A2 4 code1),.hp (own u8E B 16 (List.replicate 16 0))]
theorem sep_rd {α:Type} [DecidableEq α] {E:Enc Tryz.prog α} {A:Option Addr} {cap:Nat} {l:List α} {L:List Ck} {i:Nat} (h:nth L i=some (.hp (own E A cap l))):Rd E (.hp (Sep L)) A cap l:=fun g hc w hl=>by
 obtain ⟨h1,e1,ho⟩:=Sep.nth h hc
 exact (own.at_ ho (e1.tr hl)).view
theorem world1_in (A A2 B:Option Addr) (hA2:A2≠none):(world1 A A2 B).In (.hp (world1P A A2 B)) where
 cds:=⟨sep_rd (i:=0) rfl,fun x hx=>by
  rw [show (world1 A A2 B).l=[(A2,4,code1)] from rfl,List.mem_singleton] at hx
  subst hx
  exact fun _=>sep_rd (i:=1) rfl,fun x hx h0=>by
  rw [show (world1 A A2 B).l=[(A2,4,code1)] from rfl,List.mem_singleton] at hx
  subst hx
  exact absurd h0 (by show ¬ (4=0);omega),fun x hx hn=>by
  rw [show (world1 A A2 B).l=[(A2,4,code1)] from rfl,List.mem_singleton] at hx
  subst hx
  exact absurd hn hA2,fun x hx=>by
  rw [show (world1 A A2 B).l=[(A2,4,code1)] from rfl,List.mem_singleton] at hx
  subst hx
  intro a ha
  simp only [code1,List.mem_cons,List.not_mem_nil,or_false] at ha
  rcases ha with rfl | rfl | rfl | rfl <;> (unfold U32;omega)⟩
 b:=sep_rd (i:=2) rfl
 r:=fun a ha=>by
  rw [List.eq_of_mem_replicate ha]
  decide
theorem world1_ok (A A2 B:Option Addr):(world1 A A2 B).ok=true:=by
 show (!szF (((List.replicate 16 (0:Int)).length:Nat):Int) && newOk [code1] 1 1)=true
 decide +kernel
def m1:MD:=newM [code1] (List.replicate 16 0) 1 1
theorem c33:Sp Tryz.prog 33 [] [] fun K=>∀ b,K (.returned (pt b)) [.hp (machC 0 b m1)]:=by
 refine Zen Tryz.func33 U U U fun e X Φ hS=>Zsr<|Zy U<|Zns ?_
 refine Ze (ebu4 U U U U)<|fun A2=>Zw ?_
 refine Zol 0 own_len U<|fun hA2 _ _=>?_
 have hA2:A2≠none:=fun e=>by have:=(hA2 e).1;cases this
 refine Ze (ebsl (k:=(A2,4,code1)) U)<|fun A=>Zw ?_
 refine Ze (emks (n:=16) elU8 U U (by omega) (by decide))<|fun B=>Zw<|Zv (yb l25 U) ?_
 refine Zfl [1,1,0] (show ∀ h,Sep [.hp (own slE A 1 [(A2,4,code1)]),.hp (own u32E A2 4 code1),.hp (own u8E B 16 (List.replicate 16 0))] h→world1P A A2 B h from fun _ hs=>hs) U ?_
 refine Zk (c7 (.hp (world1P A A2 B)) (world1 A A2 B) (world1_in A A2 B hA2)) [0] U U<|⟨?_,?_⟩
 refine fun a=>fun b=>fun bi=>Zq <| Zv (ym rfl) <| Zv (yx rfl rfl) <| Zv (yx rfl rfl) <| Zv (ya rfl) <| Zv (ya rfl) <| Znl ?_
 refine Zxs<|Zb 2 U<|Znr<|Zre (.t U .n) (hS _) [0] 2 U U U U
 refine fun a=>Zq <| Zv (ym rfl) <| Zv (yx rfl rfl) <| Zv (yx rfl rfl) <| Zv (ya rfl) <| Zv (ya rfl) <| Znl <| Znx <| Zsr ?_
 refine Zb 2 U<|Znr ?_
 ·rw [world1_ok] at a
  cases a
def l7:List Cho:=[⟨1,0,0⟩,⟨1,0,0⟩,⟨1,0,0⟩,⟨2,0,0⟩,⟨3,0,0⟩,⟨3,0,0⟩,⟨2,0,0⟩]
def r1:MD × List Did:=runM m1 l7
def alive1:Bool:=decide (r1.2.length=4) && decide ((r1.2.getD 2 did0).com.value=5) && decide ((r1.2.getD 3 did0).kind=2) && decide (rdR ((memF r1.1).take 4) 0 4=5) && decide ((memF r1.1).length=16) && (memF r1.1).all (fun a=>decide (0≤a) && decide (a<256))
theorem alive1_yes:alive1=true:=by decide +kernel
theorem l7_in:∀ x∈l7,ChoIn x:=fun x hx=>by
 simp only [l7,List.mem_cons,List.not_mem_nil,or_false] at hx
 rcases hx with rfl | rfl | rfl | rfl | rfl | rfl | rfl <;> exact ⟨by decide,by decide⟩
theorem l7_right:∀ x∈l7,rightC x=true:=by decide
theorem m1_in:m1.In∧m1.C.length≤4:=newM_in (by decide +kernel)
theorem c9:Sp Tryz.prog 9 [] [spC] fun K=>K (.returned (.bool true)) [spC]:=by
 have hal:=alive1_yes
 unfold alive1 at hal
 simp only [Bool.and_eq_true,decide_eq_true_eq,List.all_eq_true] at hal
 obtain ⟨⟨⟨⟨⟨e1,e2⟩,e3⟩,e4⟩,e5⟩,e6⟩:=hal
 obtain ⟨hin,h4⟩:=m1_in
 refine Zen Tryz.func9 U U U fun e X Φ hS=>Zsr<|Zy U<|Zns<|Zk (c33 ..) [] U U<|fun b=>Zq<|Zy U ?_
 refine Zns<|Zm U<|Zv (yb l71 U)<|Zv (yb l71 U)<|Zv (yb l71 U)<|Zv (yb l71 U)<|Zv (yb l71 U)<|Zv (yb l71 U) ?_
 refine Zv (yb l71 U) ?_
 refine Ze (ebc7 (c0:=⟨1,0,0⟩) (c1:=⟨1,0,0⟩) (c2:=⟨1,0,0⟩) (c3:=⟨2,0,0⟩) (c4:=⟨3,0,0⟩) (c5:=⟨3,0,0⟩) (c6:=⟨2,0,0⟩) U U U U U U U)<|fun A=>Zw ?_
 rw [show [(⟨1,0,0⟩:Cho),⟨1,0,0⟩,⟨1,0,0⟩,⟨2,0,0⟩,⟨3,0,0⟩,⟨3,0,0⟩,⟨2,0,0⟩]=l7 from rfl,show Value.slice A 7 7 = .slice A l7.length 7 from rfl]
 refine Zk (c10 0 b m1 (.hp (own choE A 7 l7)) A 7 l7 own.rd (by decide) l7_in hin h4) [1,1,0] U U<|⟨?_,?_⟩
 refine fun a=>fun A'=>fun cap'=>Zq <| Zv (ym rfl) <| Zv (yx rfl rfl) <| Zv (yx rfl rfl) <| Zv (ya rfl) <| Zv (ya rfl) <| Znl ?_
 refine Zxs<|Zm U ?_
 rotate_left
 refine fun a=>Zq <| Zv (ym rfl) <| Zv (yx rfl rfl) <| Zv (yx rfl rfl) <| Zv (ya rfl) <| Zv (ya rfl) <| Znl <| Znx <| Zsr ?_
 refine Zm U ?_
 rotate_left
 ·rw [show runM m1 l7=r1 from rfl]
  generalize r1=r at e1 e2 e3 e4 e5 e6 ⊢
  obtain ⟨rm,ds⟩:=r
  dsimp only at e1 e2 e3 e4 e5 e6 ⊢
  have h16:16≤(memF rm).length:=by omega
  have hlm:(memF rm).length≤1048576:=by omega
  have g2:=gE (l:=ds) (k:=2) (by omega)
  have g3:=gE (l:=ds) (k:=3) (by omega)
  have f2:ds[2].com.value=5:=by rw [List.getD_eq_getElem?_getD,g2] at e2;exact e2
  have f3:ds[3].kind=2:=by rw [List.getD_eq_getElem?_getD,g3] at e3;exact e3
  refine Zk (c20 (0+l7.length) b rm (by decide)) [1] U U<|fun b'=>Zq ?_
  refine Zk (c34 b' (memF rm) h16 hlm e6) [0] U U<|Zq<|Zb 5 U<|Zns ?_
  refine Zb 7 U<|Zg U U ?_
  refine Zm U<|Zg U U<|Zv (sl_of ⟨_,Tryz.underlying33⟩ U)<|Zb 3 U<|Zg' U U (dT (by omega))<|Zm U<|Zg' U U (dT (by omega)) ?_
  refine Zv (yea (j:=2) 2 own.rd U U U (by first | assumption | omega) U Tryz.underlying33 U)<|Zg' U U (dT (by omega))<|Zv (yf 2 U)<|Zg' U U (dT (by omega))<|Zv (yf 12 U)<|Zg' U U (dT (by omega)) ?_
  rw [e4]
  refine Zv (yec (m:=14) 2 own.rd U g2 U U (by omega))<|Zg' U U (dT (by omega))<|Zv (yeq U U)<|Zv (ypt' U (dT (by omega)) U)<|Zm U<|Zg' U U (dT f2)<|Zm U<|Zg' U U (dT f2)<|Zv (yea (j:=3) 2 own.rd U U U (by first | assumption | omega) U Tryz.underlying33 U)<|Zg' U U (dT f2) ?_
  refine Zv (yf 0 U)<|Zg' U U (dT f2)<|Zv (yec (m:=0) 2 own.rd U (by assumption) U U U)<|Zg' U U (dT f2)<|Zv (yeq U U)<|Zv (ypt' U (dT f2) U)<|Zm U<|Zg' U U (dT f3)<|Zm U<|Zg' U U (dT f3) ?_
  refine Zv (yeq U U)<|Zv (ypt' U (dT f3) U)<|Zy U<|Znr<|Zre (.t U .n) hS [3] 4 U U U U
 ·exact absurd l7_right a
section
variable {P:Program} {N:Nat × List Deferred} {T:Tb} {e:World} {L:List Ck} {x:Operand} {ty t:TypeId} {pos:String} {af:Array Edge} {g:Option (Nat × Bool)} {dd:Option Nat} {α:Type} [DecidableEq α] {E:Enc P α} {A:Option Addr} {cap:Nat} {l:List α}
theorem yem (i:Nat) {c:Ck} {j q m n:Nat} {vs:List Value} (hR:Rd E c A cap l) (hL:nth L i=some c) {p:α} (hj:l[j]? = some p) (h:evT T x=some (.pointer (some ⟨bk A,q,none⟩))) (hq:q=pl A+j*E.n+m) (hv:((E.cells p).drop m).take n=vs) (hn:vs.length=n) (ht:aggT P t n=true:=by kernel_rfl):Yl P N T e L ⟨dd,.load t x,ty,pos,af,g⟩ (.agg vs.toArray):=fun a w fr hp=>by
 have hw:=hp.rd hL hR
 have hlt:=(List.getElem?_eq_some_iff.1 hj).1
 have hA:=hw.bk (by omega)
 have hr:=hw.elem hA j p hlt
 rw [List.getD_eq_getElem?_getD,hj] at hr
 exact x_loadS ht rfl (fr.evT h) (by simpa using hn) (range_sub hr m n hv hq.symm)
end
structure Arg (p q:HP):Prop where
 op:∀ h,p h→Sep [spC,.hp q] h
 fo:∀ h,Sep [spC,.hp q] h→p h
theorem Arg.un {p q:HP} (a:Arg p q) {X:List Ck} {h:Hl} (hs:Sep (.hp p::X) h):Sep (spC :: .hp q::X) h:=(hs.hd (q := .hp (Sep [spC,.hp q])) a.op).flat
theorem Arg.re {p q:HP} (a:Arg p q) {X:List Ck} {h:Hl} (hs:Sep (spC :: .hp q::X) h):Sep (.hp p::X) h:=(Sep.unflat (L:=[spC,.hp q]) hs).hd (q := .hp p) a.fo
theorem c9p {p q:HP} (a:Arg p q):Sp Tryz.prog 9 [] [.hp p] fun K=>K (.returned (.bool true)) [.hp p]:=⟨fun e X w Φ hp hS=>c9.run e (.hp q::X) w Φ (hp.imp fun _ hs=>a.un hs) fun w' hw=>hS w' (hw.imp fun _ hs=>a.re hs)⟩
theorem c10p {p q:HP} (a:Arg p q) (k b:Nat) (m:MD) (A:Option Addr) (cap:Nat) (l:List Cho) (hR:Rd choE (.hp q) A cap l) (hl:k+l.length≤1000) (hx:∀ x∈l,ChoIn x) (hm:m.In) (h4:m.C.length≤4):Sp Tryz.prog 10 [pt b,.slice A l.length cap] [.hp (machC k b m),.hp p] fun K=>((∀ x∈l,rightC x=true)→∀ A' cap',K (.returned (.tuple #[.slice A' (runM m l).2.length cap',.int .i64 0])) [.hp (own didE A' cap' (runM m l).2),.hp (machC (k+l.length) b (runM m l).1),.hp p])∧((¬ ∀ x∈l,rightC x=true)→K (.returned (.tuple #[.slice none 0 0,.int .i64 2])) [.hp (machC k b m),.hp p]):=⟨fun e X w Φ hp hS=>(c10 k b m (.hp q) A cap l hR hl hx hm h4).run e X w Φ (hp.imp fun _ hs=>hs.mapTl fun _ hs=>a.un hs) ⟨fun h A' cap' w' hw=>hS.1 h A' cap' w' (hw.imp fun _ hs=>hs.mapTl fun _ hs=>hs.mapTl fun _ hs=>a.re hs),fun h w' hw=>hS.2 h w' (hw.imp fun _ hs=>hs.mapTl fun _ hs=>a.re hs)⟩⟩
theorem ret_shaped {a:Assume} {C:Checked} {os:Os} {f:FuncId} {fn:Func} {s:ChangeSpec} {conds:List PathCond} {apart fresh handsOn again:Bool} {X:World→Array Value→Prop} {H:Type} {enc:TypeId × Value→H}
  (hX:∀ (w w':World) (args:Array Value),w.heap=w'.heap→X w args→X w' args)
  (own:ownKnob C.prog.godebug=none) (started:os.Started) (noInit:C.prog.inits.idxOf? f=none) (hfn:C.prog.funcs[f]? = some fn)
  (witness:∃ (w:World) (tape:Tape) (i:Input),w.os=os∧(w.forCall tape i).Shaped C.prog∧i.vars=[]∧Input.okWide C.prog (w.forCall tape i) .any w.heap.size f i ∧
   ((s.pre enc C.prog fn conds apart (w.forCall tape i).memory i.args∧X (w.forCall tape i).memory i.args)∧sizedMet enc C.prog fn (OpenSpec.ofChange s) apart (w.forCall tape i).memory i.args)∧a.holds C.prog (lone (Frame.enter C.prog f i.args .normal) [] (w.forCall tape i)))
  (contract:∀ (W:World) (base:Nat) (args:Array Value) (ds gs:List (DataW H)) (before:List MemPlace),W.ShapedOpen C.prog →
   (∀ (j:Nat) t v,fn.params[j]? = some t→args[j]? = some v→Value.okWide C.prog W .any base t v) →
   DataW.Whole enc C.prog fn.params.toList s.vars apart W args.toList ds gs before →
   conds.all (PathCond.test C.prog ⟨fn.params.toList,ds,s.plain.varTypes C.prog,gs⟩)=true→X W args →
   Calls C.prog f args W fun e W'=>∃ v,e = .returned v∧s.post enc C.prog fn apart fresh handsOn again W args v W') :
  ReturnsInHanded a C os f .any (fun w args=>(s.pre enc C.prog fn conds apart w args∧X w args)∧sizedMet enc C.prog fn (OpenSpec.ofChange s) apart w args) (s.post enc C.prog fn apart fresh handsOn again):=by
 refine returnsInHanded_of_calls own started noInit witness ?_
 intro w tape i _ hsh _ hok hpre _
 obtain ⟨_,_,_,fn',hfn',_,_,_,_,hval⟩:=hok
 have e:fn'=fn:=Option.some.inj (hfn'.symm.trans hfn)
 subst e
 obtain ⟨⟨⟨ds,gs,before,hw,hc⟩,hx⟩,_⟩:=hpre
 have hw':=DataW.Whole.of_heap (w':=w.forCall tape i) (by rfl) hw
 refine (contract (w.forCall tape i) w.heap.size i.args ds gs before hsh hval hw' hc (hX _ _ _ (by rfl) hx)).mono fun e W' ⟨v,he,hp⟩=>?_
 subst he
 exact ChangeSpec.post_blind hp
theorem sp_block {W : World} (hs : W.ShapedOpen Tryz.prog) (hv : W.var? Tryz.prog "strings.asciiSpace" = some spL.toArray) : W.heap[0]? = some (.cells spL.toArray 405 (0, 0)) := by
 have h0:(((begin Tryz.prog (fun _ _=>0) default).world.heap[0]?).bind Obj.row?).map (·.2)=some 405:=by kernel_rfl
 obtain ⟨⟨zero,t⟩,h1,h2⟩:=Option.map_eq_some_iff.1 h0
 have h2:t=405:=h2
 subst h2
 obtain ⟨cs,h3,_⟩:=hs.1 0 zero 405 (Nat.le_of_ble_eq_true (by kernel_rfl)) h1
 unfold World.var? at hv
 rw [show Tryz.prog.globalNamed "strings.asciiSpace" = some 0 by kernel_rfl] at hv
 simp only [Option.bind_some,h3,Option.some.injEq] at hv
 rw [h3,hv]
def spZ:List Int:=(List.range 256).map fun k=>if k=9∨k=10∨k=11∨k=12∨k=13∨k=32 then 1 else 0
theorem sp_data:(Rows.laid_strings_asciiSpace:DataW Unit)=Lib.tabData .u8 spZ:=by kernel_rfl
theorem sp_zs:spZ.map (fun z=>Value.int .u8 z)=spL:=by
 unfold spZ spL
 rw [List.map_map]
 rfl
theorem sp_laid {W : World} (h : laidMetH Tryz.prog Rows.topAgainRow.laid W) : W.var? Tryz.prog "strings.asciiSpace" = some spL.toArray := by
 rw [MakeChecks.laidMetH_plain _ _ _ (by kernel_rfl)] at h
 have h2 : laidMet Tryz.prog [("strings.asciiSpace", Lib.tabData .u8 spZ)] W := by
  rw [← sp_data]
  exact h.tail.tail.tail.tail
 have h3:=Lib.tabIs_of_head (P:=Tryz.prog) (W:=W) (g:=0) (t:=405) (e:=5) (n:=256) (by kernel_rfl) (by kernel_rfl) Tryz.underlying405 Tryz.underlying5 (by kernel_rfl) (by kernel_rfl) h2
 unfold Lib.TabIs at h3
 rw [h3,sp_zs]
def hpP (W:World):HP:=fun h=>Le (hlOf W) h
def hpQ (W:World):HP:=fun h=>∀ k o,k≠0→W.heap[k]? = some o→h k=some o
theorem arg_W {W:World} (h0:W.heap[0]? = some (.cells spL.toArray 405 (0,0))):Arg (hpP W) (hpQ W) where
 op h hp:=by
  refine ⟨fun k=>if k=0 then h 0 else none,fun k=>if k=0 then none else h k,fun k o e=>?_,fun k o e=>?_,fun k=>?_,?_,fun k=>if k=0 then none else h k,fun _=>none,Le.refl _,(fun _ _ e=>by cases e),fun _ => .inr rfl,fun k o hk hW=>?_,trivial⟩
  ·by_cases hk:k=0
   ·subst hk;simpa using e
   ·simp [hk] at e
  ·by_cases hk:k=0
   ·simp [hk] at e
   ·simpa [hk] using e
  ·by_cases hk:k=0
   ·exact .inr (by simp [hk])
   ·exact .inl (by simp [hk])
  ·show (if 0=0 then h 0 else none)=_
   rw [if_pos rfl]
   exact hp 0 _ h0
  ·show (if k=0 then none else h k)=_
   rw [if_neg hk]
   exact hp k o hW
 fo h hs:=by
  obtain ⟨h1,h2,l1,l2,_,hb,h3,h4,l3,_,_,hq,_⟩:=hs
  intro k o hk
  by_cases h:k=0
  ·subst h
   have e:o = .cells spL.toArray 405 (0,0):=Option.some.inj ((show W.heap[0]? = some o from hk).symm.trans h0)
   subst e
   exact l1 _ _ hb
  ·exact l2 _ _ (l3 _ _ (hq k o h hk))
theorem heap_le {W w:World} {k:Nat} {o:Obj} (hl:Le (hlOf W) (hlOf w)) (h:W.heap[k]? = some o):w.heap[k]? = some o:=hl k o h
theorem cell_le {W w:World} {x:Addr} {v:Value} (hl:Le (hlOf W) (hlOf w)) (h:W.cell? x=some v):w.cell? x=some v:=by
 unfold World.cell? at h ⊢
 cases hk:W.heap[x.block]? with
 | none=>simp [hk] at h
 | some o=>
  rw [hk] at h
  rw [heap_le hl hk]
  exact h
theorem size_le {W w:World} (hl:Le (hlOf W) (hlOf w)):W.heap.size≤w.heap.size:=by
 rcases Nat.eq_zero_or_pos W.heap.size with h | h
 ·omega
 ·have:=heap_le (k:=W.heap.size-1) hl (Array.getElem?_eq_getElem (by omega))
  have:=(Array.getElem?_eq_some_iff.1 this).1
  omega
theorem view_W {α:Type} [DecidableEq α] {E:Enc Tryz.prog α} {W:World} {A:Option Addr} {cap:Nat} {l:List α} (h:View E W A cap l):Rd E (.hp (hpP W)) A cap l:=fun h1 hd w hl=>by
 have hle:Le (hlOf W) (hlOf w):=Le.tr hd hl
 obtain ⟨h2,h3,h4⟩:=h
 refine ⟨h2,h3,h4.imp id fun ⟨g,o,hA,hg,hr⟩=>⟨g,o,hA,Nat.lt_of_lt_of_le hg (size_le hle),fun j v hj=>cell_le hle (hr j v hj)⟩⟩
theorem below_W {W w:World} (h:Hp W [.hp (hpP W)] w):Go.RowKit.Below W.heap.size W w:=by
 obtain ⟨g,hg,hp⟩:=h.get (i:=0) rfl
 have hle:Le (hlOf W) (hlOf w):=Le.tr hp hg
 exact ⟨h.os,h.tape,h.output,size_le hle,fun k hk=>by rw [heap_le hle (Array.getElem?_eq_getElem hk),Array.getElem?_eq_getElem hk]⟩
theorem hp_W (W:World):Hp W [.hp (hpP W)] W:=⟨rfl,rfl,rfl,sep_hp1 (Le.refl _)⟩
end Go.Proofs.YtpfijldkkfiooaaGreatDoor
namespace Go.Proofs.YtpfijldkkfiooaaGreatDoor
open Go.RowKit Go.ChangeShapes Go.WideShapes Go.ChangeAt Go.Deep
section
variable {H:Type} {enc:TypeId × Value→H} {P:Program} {w:World} {base:Nat} {spare:Nat→Bool} {held:Bool} {fuel:Nat} {cs:List Value} {x:DataW H × List MemPlace}
theorem has_addr {r:Reach} {a:Addr} {e n:Nat} (h:w.has P r base a e n):∃ g o,a=⟨g,o,none⟩∧g<w.heap.size:=by
 obtain ⟨_,h1,row,cells,h2,_⟩:=h
 obtain ⟨g,o,s⟩:=a
 subst h1
 refine ⟨g,o,rfl,?_⟩
 unfold World.shape? at h2
 rcases Nat.lt_or_ge g w.heap.size with h | h
 ·exact h
 ·have:w.heap[g]? = none:=Array.getElem?_eq_none h
  simp [this] at h2
theorem add_none (g o i:Nat):(⟨g,o,none⟩:Addr).add i=⟨g,o+i,none⟩:=by
 unfold Addr.add
 by_cases h:i=0 <;> simp [h]
theorem open_recs {α:Type} [DecidableEq α] {E:Enc P α} {OK:α→Prop} {t:TypeId} {r:Reach} {b0:Nat} {v:Value} {d:DataW H} {p:List MemPlace} (ht:P.underlying t=some (.slice E.T)) (hC:P.cellsOf E.T=E.n)
  (hel:∀ fuel cs x,DataW.trod enc P w base (fun _=>true) held fuel E.T cs=some x→∃ m,OK m∧cs=E.cells m) (hv:Value.okWide P w r b0 t v) (h:DataW.Trod enc P w base (fun _=>true) held t v d p) :
  ∃ A cap l,v = .slice A l.length cap∧View E w A cap l∧∀ m∈l,OK m:=by
 obtain ⟨a0,len,cap,rfl⟩:=okWide_slice ht hv
 obtain ⟨fuel,hf⟩:=h
 rcases open_slice ht hf with ⟨hcs,_⟩ | ⟨a,l,c,m,n,D,Pl,hcs,_,hl,hm,hz,_,hcell⟩
 ·simp [Value.cells] at hcs
  obtain ⟨rfl,rfl,rfl⟩:=hcs
  exact ⟨none,0,[],rfl,View.nil,by simp⟩
 ·simp [Value.cells] at hcs
  obtain ⟨rfl,rfl,rfl⟩:=hcs
  rw [if_pos rfl] at hz
  subst hz
  have hh:w.has P r b0 a E.T m:=by
   unfold Value.okWide at hv
   rw [ht] at hv
   simp only [Cell.okWide,ht,Cell.ok] at hv
   exact hv.2.2
  obtain ⟨g,o,rfl,hg⟩:=has_addr hh
  rw [hC] at hcell
  have hb:∀ i:_root_.Fin len,∃ q:α,OK q∧w.rangeAt g (o+i.1*E.n) (E.cells q):=by
   intro i
   obtain ⟨cs',h1,h2⟩:=hcell i.1 (by omega)
   obtain ⟨q,hq,rfl⟩:=hel _ _ _ h2
   obtain ⟨_,hcl,hat⟩:=World.cells?_some h1
   refine ⟨q,hq,fun j v hj=>?_⟩
   have hjl:=(List.getElem?_eq_some_iff.1 hj).1
   have:=hat j (by omega)
   rw [add_none,add_none] at this
   rw [this,hj]
  obtain ⟨f,hf⟩:∃ f:_root_.Fin len→α,∀ i,OK (f i)∧w.rangeAt g (o+i.1*E.n) (E.cells (f i)):=⟨fun i=>(hb i).choose,fun i=>(hb i).choose_spec⟩
  refine ⟨some ⟨g,o,none⟩,m,List.ofFn f,by simp,⟨by simp;omega,hm,.inr ⟨g,o,rfl,hg,fun j v hj=>?_⟩⟩,?_⟩
  ·have hjl:=(List.getElem?_eq_some_iff.1 hj).1
   rw [flat_len,List.length_ofFn] at hjl
   have hn:=E.pos
   have hq:j/E.n<len:=(Nat.div_lt_iff_lt_mul hn).2 hjl
   have hr:j%E.n<E.n:=Nat.mod_lt _ hn
   have hj2:j/E.n*E.n+j%E.n=j:=by rw [Nat.mul_comm];exact Nat.div_add_mod j E.n
   have e1:=flat_drop (E:=E) (List.ofFn f) (j/E.n) (by simpa using hq)
   have e2:(E.cells (f ⟨j/E.n,hq⟩))[j%E.n]? = some v:=by
    rw [List.getElem_ofFn] at e1
    rw [← e1,List.getElem?_take,if_pos hr,List.getElem?_drop,hj2]
    exact hj
   have:=(hf ⟨j/E.n,hq⟩).2 (j%E.n) v e2
   rw [← this]
   show _=w.cell? ⟨g,o+j/E.n*E.n+j%E.n,none⟩
   rw [Nat.add_assoc,hj2]
  ·intro q hq
   obtain ⟨i,rfl⟩:=List.mem_ofFn.1 hq
   exact (hf i).1
end
end Go.Proofs.YtpfijldkkfiooaaGreatDoor
namespace Go.Proofs.YtpfijldkkfiooaaGreatDoor
open Go Go.RowKit Go.ChangeShapes Go.WideShapes Go.ChangeAt Go.Deep
set_option maxRecDepth 20000
structure InOk (w:World) (m:Option Addr × Nat × List Int):Prop where
 v:m.2.1≠0→View u32E w m.1 m.2.1 m.2.2
 z:m.2.1=0→m.2.2=[]
 n:m.1=none→m.2.2=[]∧m.2.1=0
 u:∀ a∈m.2.2,U32 a
theorem addr_of {w:World} {a:Addr} {v:Value} (h:w.cell? a=some v):∃ g o,a=⟨g,o,none⟩∧g<w.heap.size:=by
 obtain ⟨g,o,s⟩:=a
 unfold World.cell? at h
 cases hk:w.heap[g]? with
 | none=>simp [hk] at h
 | some ob=>
  refine ⟨g,o,?_,(Array.getElem?_eq_some_iff.1 hk).1⟩
  cases s with
  | none=>rfl
  | some s=>cases ob <;> simp [hk] at h
theorem flat_ints (l:List Int):l.flatMap u32E.cells=l.map (Value.int .u32):=by
 induction l with
 | nil=>rfl
 | cons a r ih=>exact congrArg (List.cons _) ih
theorem wf_u32 {z:Int} (h:(Lit.int .u32 z).wf=true):U32 z:=by
 simp [Lit.wf] at h
 unfold U32
 simp [IntKind.min,IntKind.max,IntKind.bits,IntKind.signed] at h
 omega
theorem open_in {H:Type} {enc:TypeId × Value→H} {w:World} {base:Nat} {held:Bool} {fuel:Nat} {cs:List Value} {x:DataW H × List MemPlace} (h:DataW.trod enc Tryz.prog w base (fun _=>true) held fuel 62 cs=some x):∃ m,InOk w m∧cs=slE.cells m:=by
 rcases open_slice Tryz.underlying62 h with ⟨hcs,_⟩ | ⟨a,len,cap,m,n,D,Pl,hcs,_,hl,hm,hz,_,hcell⟩
 ·exact ⟨(none,0,[]),⟨fun h=>absurd rfl h,fun _=>rfl,fun _=>⟨rfl,rfl⟩,fun a ha=>by cases ha⟩,hcs⟩
 ·rw [if_pos rfl] at hz
  subst hz
  by_cases hc:m=0
  ·subst hc
   obtain rfl:len=0:=by omega
   exact ⟨(some a,0,[]),⟨fun h=>absurd rfl h,fun _=>rfl,fun h=>(by cases h),fun a ha=>(by cases ha)⟩,hcs⟩
  ·have hC:Tryz.prog.cellsOf 40=1:=by kernel_rfl
   rw [hC] at hcell
   have hb:∀ i:_root_.Fin m,∃ z:Int,w.cell? (a.add i.1)=some (.int .u32 z)∧(Lit.int .u32 z).wf=true:=fun i=>by
    obtain ⟨cs',h1,h2⟩:=hcell i.1 i.2
    obtain ⟨_,hcl,hat⟩:=World.cells?_some h1
    obtain ⟨z,e0,_,wz⟩:=DataW.trod_int Tryz.underlying40 h2
    subst e0
    have:=hat 0 (by omega)
    rw [Nat.mul_one] at this
    exact ⟨z,by simpa [Addr.add] using this,wz⟩
   obtain ⟨f,hf⟩:∃ f:_root_.Fin m→Int,∀ i,w.cell? (a.add i.1)=some (.int .u32 (f i))∧(Lit.int .u32 (f i)).wf=true:=⟨fun i=>(hb i).choose,fun i=>(hb i).choose_spec⟩
   obtain ⟨g,o,ha,hg⟩:=addr_of (hf ⟨0,by omega⟩).1
   subst ha
   refine ⟨(some ⟨g,o,none⟩,m,(List.range len).map fun i=>if hi:i<m then f ⟨i,hi⟩ else 0),⟨fun _=>⟨by simpa using hl,hm,.inr ⟨g,o,rfl,hg,fun j v hj=>?_⟩⟩,fun h=>absurd h hc,fun h=>(by cases h),fun z hz=>?_⟩,by rw [hcs];simp [slE]⟩
   ·rw [flat_ints] at hj
    have hjl:j<len:=by have:=(List.getElem?_eq_some_iff.1 hj).1;simpa using this
    have hjm:j<m:=by omega
    have:=(hf ⟨j,hjm⟩).1
    rw [add_none] at this
    rw [this]
    simpa [hjl,hjm] using hj
   ·obtain ⟨i,_,rfl⟩:=List.mem_map.1 hz
    by_cases hi:i<m
    ·have:=(hf ⟨i,hi⟩).2
     simp only [hi,dif_pos]
     exact wf_u32 this
    ·simp only [hi,dif_neg,not_false_eq_true];exact u0
theorem open_codes {H:Type} {enc:TypeId × Value→H} {w:World} {base b0:Nat} {held:Bool} {r:Reach} {v:Value} {d:DataW H} {p:List MemPlace} (hv:Value.okWide Tryz.prog w r b0 22 v) (h:DataW.Trod enc Tryz.prog w base (fun _=>true) held 22 v d p):∃ A cap l,v = .slice A l.length cap∧View slE w A cap l∧∀ m∈l,InOk w m:=
 open_recs (E:=slE) Tryz.underlying22 (by kernel_rfl) (fun _ _ _ h=>open_in h) hv h
theorem cds_W {W:World} {A:Option Addr} {cap:Nat} {l:List (Option Addr × Nat × List Int)} (h:View slE W A cap l) (hi:∀ m∈l,InOk W m):Cds (.hp (hpP W)) A cap l:=
 ⟨view_W h,fun m hm h0=>view_W ((hi m hm).v h0),fun m hm=>(hi m hm).z,fun m hm=>(hi m hm).n,fun m hm=>(hi m hm).u⟩
theorem wf_u8 {a:Int} (h:(Lit.int .u8 a).wf=true):0≤a∧a<256:=by
 simp [Lit.wf,IntKind.min,IntKind.max,IntKind.signed,IntKind.bits] at h
 omega
theorem wf_i64 {a:Int} (h:(Lit.int .i64 a).wf=true) : -9223372036854775808≤a∧a≤9223372036854775807:=by
 simp [Lit.wf,IntKind.min,IntKind.max,IntKind.signed,IntKind.bits] at h
 omega
theorem wld_cells {w:World} {r:Reach} {b0:Nat} {v:Value} (hv:Value.okWide Tryz.prog w r b0 25 v):∃ v0 v1 v2 v3,v = .agg #[v0,v1,v2,v3]∧Value.okWide Tryz.prog w r b0 22 v0∧Value.okWide Tryz.prog w r b0 23 v1:=by
 simp only [Value.okWide,Tryz.underlying25] at hv
 obtain ⟨cs,rfl,hsz,ts,hts,_,hall⟩:=hv
 have hC:Tryz.prog.cellsOf 25=4:=by kernel_rfl
 rw [hC] at hsz
 obtain rfl:ts=[22,23,3,3]:=Option.some.inj (hts.symm.trans (by kernel_rfl))
 obtain ⟨l⟩:=cs
 match l,hsz with
 | [v0,v1,v2,v3],_=>
  refine ⟨v0,v1,v2,v3,rfl,?_,?_⟩
  ·obtain ⟨u,hu,ho⟩:=hall 0 v0 rfl
   obtain rfl:22=u:=Option.some.inj hu
   simp only [Value.okWide,Tryz.underlying22]
   exact ho
  ·obtain ⟨u,hu,ho⟩:=hall 1 v1 rfl
   obtain rfl:23=u:=Option.some.inj hu
   simp only [Value.okWide,Tryz.underlying23]
   exact ho
theorem open_wld {H:Type} {enc:TypeId × Value→H} {w:World} {base b0:Nat} {held:Bool} {r:Reach} {v:Value} {d:DataW H} {p:List MemPlace} (hv:Value.okWide Tryz.prog w r b0 25 v) (h:DataW.Trod enc Tryz.prog w base (fun _=>true) held 25 v d p) :
  ∃ x:Wld,v = .agg x.cells.toArray∧View slE w x.A x.cap x.l∧(∀ m∈x.l,InOk w m)∧View u8E w x.B x.capb x.bs∧∀ a∈x.bs,0≤a∧a<256:=by
 obtain ⟨v0,v1,v2,v3,rfl,o0,o1⟩:=wld_cells hv
 obtain ⟨fuel,hf⟩:=h
 obtain ⟨xs,n,_,_,hl,hlen,hg⟩:=DataW.trod_struct Tryz.underlying25 hf
 match xs,hlen with
 | [y0,y1,y2,y3],_=>
  have c22:Tryz.prog.cellsOf 22=1:=by kernel_rfl
  have c23:Tryz.prog.cellsOf 23=1:=by kernel_rfl
  have c3:Tryz.prog.cellsOf 3=1:=by kernel_rfl
  have h0:DataW.trod enc Tryz.prog w base (fun _=>true) held n 22 (([v0,v1,v2,v3].drop 0).take (Tryz.prog.cellsOf 22))=some y0:=hg 0 _ rfl
  have h1:DataW.trod enc Tryz.prog w base (fun _=>true) held n 23 (([v0,v1,v2,v3].drop 1).take (Tryz.prog.cellsOf 23))=some y1:=hg 1 _ rfl
  have h2:DataW.trod enc Tryz.prog w base (fun _=>true) held n 3 (([v0,v1,v2,v3].drop 2).take (Tryz.prog.cellsOf 3))=some y2:=hg 2 _ rfl
  have h3:DataW.trod enc Tryz.prog w base (fun _=>true) held n 3 (([v0,v1,v2,v3].drop 3).take (Tryz.prog.cellsOf 3))=some y3:=hg 3 _ rfl
  rw [c22] at h0
  rw [c23] at h1
  rw [c3] at h2 h3
  obtain ⟨a2,e2,_⟩:=DataW.trod_int Tryz.underlying3 h2
  obtain ⟨a3,e3,_⟩:=DataW.trod_int Tryz.underlying3 h3
  obtain rfl:v2 = .int .i64 a2:=by simpa using e2
  obtain rfl:v3 = .int .i64 a3:=by simpa using e3
  have k0:DataW.Trod enc Tryz.prog w base (fun _=>true) held 22 v0 y0.1 y0.2:=by
   obtain ⟨A,len,cap,rfl⟩:=okWide_slice Tryz.underlying22 o0
   exact ⟨n,h0⟩
  have k1:DataW.Trod enc Tryz.prog w base (fun _=>true) held 23 v1 y1.1 y1.2:=by
   obtain ⟨A,len,cap,rfl⟩:=okWide_slice Tryz.underlying23 o1
   exact ⟨n,h1⟩
  obtain ⟨A,cap,l,rfl,hA,hi⟩:=open_codes o0 k0
  obtain ⟨B,capb,bs,rfl,hB,hb⟩:=open_recs (E:=u8E) (OK:=fun a=>0≤a∧a<256) Tryz.underlying23 (by kernel_rfl) (fun _ _ _ h=>by
   obtain ⟨z,e,_,wz⟩:=DataW.trod_int Tryz.underlying5 h
   exact ⟨z,wf_u8 wz,e⟩) o1 k1
  exact ⟨⟨A,cap,l,B,capb,bs,a2,a3⟩,rfl,hA,hi,hB,hb⟩
theorem wld_in {W:World} {x:Wld} (hA:View slE W x.A x.cap x.l) (hi:∀ m∈x.l,InOk W m) (hB:View u8E W x.B x.capb x.bs) (hb:∀ a∈x.bs,0≤a∧a<256):x.In (.hp (hpP W)):=⟨cds_W hA hi,view_W hB,hb⟩
theorem open_cho {H:Type} {enc:TypeId × Value→H} {w:World} {base:Nat} {held:Bool} {fuel:Nat} {cs:List Value} {x:DataW H × List MemPlace} (h:DataW.trod enc Tryz.prog w base (fun _=>true) held fuel 71 cs=some x):∃ m:Cho,ChoIn m∧cs=choE.cells m:=by
 obtain ⟨xs,n,_,_,hl,hlen,hg⟩:=DataW.trod_struct Tryz.underlying71 h
 have hC:Tryz.prog.cellsOf 71=3:=by kernel_rfl
 rw [hC] at hl
 match cs,hl,xs,hlen with
 | [v0,v1,v2],_,[y0,y1,y2],_=>
  have h0:=hg 0 _ rfl
  have h1:=hg 1 _ rfl
  have h2:=hg 2 _ rfl
  obtain ⟨a0,e0,_⟩:=DataW.trod_int (k := .i64) (by kernel_rfl) (show _=some y0 from h0)
  obtain ⟨a1,e1,_,w1⟩:=DataW.trod_int (k := .i64) (by kernel_rfl) (show _=some y1 from h1)
  obtain ⟨a2,e2,_,w2⟩:=DataW.trod_int (k := .i64) (by kernel_rfl) (show _=some y2 from h2)
  refine ⟨⟨a0,a1,a2⟩,⟨wf_i64 w1,wf_i64 w2⟩,?_⟩
  have d0:[v0]=[Value.int .i64 a0]:=e0
  have d1:[v1]=[Value.int .i64 a1]:=e1
  have d2:[v2]=[Value.int .i64 a2]:=e2
  show [v0,v1,v2]=[Value.int .i64 a0,.int .i64 a1,.int .i64 a2]
  simp_all
theorem open_chos {H:Type} {enc:TypeId × Value→H} {w:World} {base b0:Nat} {held:Bool} {r:Reach} {v:Value} {d:DataW H} {p:List MemPlace} (hv:Value.okWide Tryz.prog w r b0 26 v) (h:DataW.Trod enc Tryz.prog w base (fun _=>true) held 26 v d p):∃ A cap l,v = .slice A l.length cap∧View choE w A cap l∧∀ m∈l,ChoIn m:=
 open_recs (E:=choE) Tryz.underlying26 (by kernel_rfl) (fun _ _ _ h=>open_cho h) hv h
theorem rd_q {α:Type} [DecidableEq α] {E:Enc Tryz.prog α} (hE:∀ x:α,∃ v,(E.cells x)[0]? = some v∧∀ z,v ≠ .int .u8 z) {W:World} (h0:W.heap[0]? = some (.cells spL.toArray 405 (0,0))) (h1:1<W.heap.size) {A:Option Addr} {cap:Nat} {l:List α} (h:View E W A cap l):Rd E (.hp (hpQ W)) A cap l:=fun hh hd w hl=>by
 obtain ⟨h2,h3,h4⟩:=h
 have at_:∀ k,k≠0→k<W.heap.size→w.heap[k]? = W.heap[k]? := fun k hk hks=>by
  rw [Array.getElem?_eq_getElem hks]
  exact hl k _ (hd k _ hk (Array.getElem?_eq_getElem hks))
 have size:W.heap.size≤w.heap.size:=by
  have:=at_ (W.heap.size-1) (by omega) (by omega)
  rw [Array.getElem?_eq_getElem (show W.heap.size-1<W.heap.size by omega)] at this
  have:=(Array.getElem?_eq_some_iff.1 this).1
  omega
 refine ⟨h2,h3,h4.imp id fun ⟨g,o,hA,hg,hr⟩=>⟨g,o,hA,Nat.lt_of_lt_of_le hg size,?_⟩⟩
 by_cases hg0:g=0
 ·subst hg0
  cases l with
  | nil=>intro j v hj;simp at hj
  | cons c r=>
   obtain ⟨v,hv,hz⟩:=hE c
   have hlt:=(List.getElem?_eq_some_iff.1 hv).1
   have:=hr 0 v (by rw [List.flatMap_cons,List.getElem?_append_left hlt];exact hv)
   unfold World.cell? at this
   simp only [h0] at this
   exfalso
   have h5:spL.toArray[o+0]? = some v:=by
    first | exact this | simpa using this
   rw [List.getElem?_toArray] at h5
   obtain ⟨z,_,e⟩:=List.mem_map.1 (List.mem_of_getElem? h5)
   exact hz _ e.symm
 ·intro j v hj
  have:=hr j v hj
  unfold World.cell? at this ⊢
  rw [show (⟨g,o+j,none⟩:Addr).block=g from rfl,at_ g hg0 hg]
  exact this
theorem chos_q {W:World} (h0:W.heap[0]? = some (.cells spL.toArray 405 (0,0))) (h1:1<W.heap.size) {A:Option Addr} {cap:Nat} {l:List Cho} (h:View choE W A cap l):Rd choE (.hp (hpQ W)) A cap l:=rd_q (fun x=>⟨.int .i64 x.kind,rfl,fun _ e=>by cases e⟩) h0 h1 h
theorem words_q {W:World} (h0:W.heap[0]? = some (.cells spL.toArray 405 (0,0))) (h1:1<W.heap.size) {A:Option Addr} {cap:Nat} {l:List Int} (h:View u32E W A cap l):Rd u32E (.hp (hpQ W)) A cap l:=rd_q (fun x=>⟨.int .u32 x,rfl,fun _ e=>by cases e⟩) h0 h1 h
theorem wsize {W:World} (hs:W.ShapedOpen Tryz.prog):1<W.heap.size:=by
 have h0:(((begin Tryz.prog (fun _ _=>0) default).world.heap[1]?).bind Obj.row?).isSome=true:=by kernel_rfl
 obtain ⟨⟨zero,t⟩,h1⟩:=Option.isSome_iff_exists.1 h0
 obtain ⟨cs,h3,_⟩:=hs.1 1 zero t (Nat.le_of_ble_eq_true (by kernel_rfl)) h1
 exact (Array.getElem?_eq_some_iff.1 h3).1
end Go.Proofs.YtpfijldkkfiooaaGreatDoor
namespace Go.Proofs.YtpfijldkkfiooaaGreatDoor
open Go Go.RowKit
set_option linter.unusedVariables false
abbrev Gd:=List (Nat × Bool)
abbrev CE:=Nat × Gd × Value
def sameB:Bool→Bool→Bool
 | true,b=>b
 | false,b => !b
def memG (t:Nat) (b:Bool):Gd→Bool
 | []=>false
 | (s,c)::g=>(Nat.beq t s && sameB b c) || memG t b g
def subG:Gd→Gd→Bool
 | [],_=>true
 | (t,b)::ps,g=>memG t b g && subG ps g
def atomG (d:Nat):Gd→Bool
 | []=>false
 | (s,_)::g=>Nat.beq d s || atomG d g
def sbT (g:Gd):List CE→Option Tb
 | []=>some []
 | (t,gx,v)::C=>match sbT g C with
  | some T=>match subG gx g with | true=>some ((t,v)::T) | false=>some T
  | none=>none
def rmv (d:Nat):List CE→Option (List CE)
 | []=>some []
 | (t,g,v)::C=>match rmv d C with
  | some R=>match Nat.beq t d with
   | true=>some R
   | false=>match atomG d g with | true=>none | false=>some ((t,g,v)::R)
  | none=>none
def delT (d:Nat):Tb→Option Tb
 | []=>some []
 | (t,v)::T=>match delT d T with
  | some R=>match Nat.beq t d with | true=>some R | false=>some ((t,v)::R)
  | none=>none
def appO:Tb→Tb→Option Tb
 | [],T=>some T
 | p::A,T=>match appO A T with | some R=>some (p::R) | none=>none
def findG (s:Nat):List CE→Option Gd
 | []=>none
 | (t,g,v)::C=>match Nat.beq t s with
  | true=>match v with | .bool _=>some g | _=>none
  | false=>findG s C
def cndG (ops:Array Oper) (T:Tb) (C:List CE):Option (Nat × Bool)→Option Gd
 | none=>some []
 | some (j,b)=>match dstAt ops j with
  | some s=>match findG s C with
   | some g=>some ((s,b)::g)
   | none=>match look T s with | some (.bool _)=>some [(s,b)] | _=>none
  | none=>none
def pkB (x y:Operand) (c bx b:Bool):Bool:=match x,y with
 | _,.const (.bool false)=>c && bx
 | .const (.bool true),_=>c || b
 | _,_=>bif c then bx else b
def pkO (x y:Operand) (c bx b:Bool):Option Value:=match x,y with
 | _,.const (.bool false)=>some (.bool (c && bx))
 | .const (.bool true),_=>some (.bool (c || b))
 | _,_=>some (.bool (bif c then bx else b))
theorem pkO_eq (x y:Operand) (c bx b:Bool):pkO x y c bx b=some (.bool (pkB x y c bx b)):=by
 unfold pkO pkB
 split <;> rfl
def evC (T0:Tb) (C:List CE) (L:List Ck) (hs:List Nat) (G:Gd):Op→Option (Value × List Nat × List Nat × List Nat × List PC)
 | .pick (.tmp tc) x y=>match sbT G C with
  | some T=>match look (T++T0) tc with
   | some (.bool cb)=>match sbT ((tc,true)::G) C,sbT ((tc,false)::G) C with
    | some T1,some T2=>match evT (T1++T0) x,evT (T2++T0) y with
     | some (.bool bx),some (.bool b)=>match pkO x y cb bx b with | some v=>some (v,hs,[],[],[]) | none=>none
     | _,_=>none
    | _,_=>none
   | _=>none
  | none=>none
 | op=>match sbT G C with | some T=>vOp (T++T0) L hs op | none=>none
def runC (ops:Array Oper) (L:List Ck):Nat→List Nat→Tb→List CE→List Nat→List Nat→List PC→List Oper→Option (List Oper × Tb × List Nat × List Nat × List PC)
 | 0,_,T,C,xs,ys,cs,l=>match sbT [] C with
  | some A=>match appO A T with | some R=>some (l,R,xs,ys,cs) | none=>none
  | none=>none
 | k+1,hs,T,C,xs,ys,cs,⟨some d,op,_,_,_,g⟩::l=>match cndG ops T C g with
  | some G=>match rmv d C,atomG d G with
   | some R,false=>match evC T C L hs G op with
    | some (v,hs',x,y,c)=>match look T d with
     | none=>runC ops L k hs' T ((d,G,v)::R) (x++xs) (y++ys) (c++cs) l
     | some _=>match delT d T with
      | some T'=>runC ops L k hs' T' ((d,G,v)::R) (x++xs) (y++ys) (c++cs) l
      | none=>none
    | none=>none
   | _,_=>none
  | none=>none
 | _+1,_,_,_,_,_,_,_=>none
def holdsG (a:Act) (g:Gd):Prop:=∀ p∈g,a.tmps.getD p.1 undef = .bool p.2
structure FrC (N:Nat × List Deferred) (T:Tb) (C:List CE) (a:Act):Prop where
 fr:Fr N T a
 y:∀ e∈C,holdsG a e.2.1→a.tmps.getD e.1 undef=e.2.2
 n:∀ e∈C,¬ holdsG a e.2.1→a.tmps.getD e.1 undef=undef
section
variable {P:Program} {r:Option Nat} {n:Nat} {N:Nat × List Deferred} {T T':Tb} {a:Act} {w e:World} {Q:Exit→Act→World→Prop} {ops:Array Oper} {rest l:List Oper} {d:Nat} {v:Value} {L S M:List Ck} {ty:TypeId} {pos:String} {af:Array Edge} {g:Option (Nat × Bool)} {dd:Option Nat} {op:Op} {C R:List CE} {G:Gd} {T0 T1:Tb}
theorem sameB_eq:∀ {b c:Bool},sameB b c=true→b=c
 | true,true,_=>rfl
 | false,false,_=>rfl
theorem memG_ok {t:Nat} {b:Bool}:∀ {g:Gd},memG t b g=true→(t,b)∈g
 | (s,c)::g,h=>by
  unfold memG at h
  rw [Bool.or_eq_true,Bool.and_eq_true] at h
  rcases h with ⟨h1,h2⟩ | h
  ·rw [Nat.eq_of_beq_eq_true h1,sameB_eq h2];exact List.mem_cons_self
  ·exact List.mem_cons_of_mem _ (memG_ok h)
theorem subG_ok:∀ {ps g:Gd},subG ps g=true→∀ p∈ps,p∈g
 | [],_,_,p,hp=>by cases hp
 | (t,b)::ps,g,h,p,hp=>by
  unfold subG at h
  rw [Bool.and_eq_true] at h
  rcases List.mem_cons.1 hp with rfl | hp
  ·exact memG_ok h.1
  ·exact subG_ok h.2 p hp
theorem atomG_ok {d:Nat}:∀ {g:Gd},atomG d g=false→∀ p∈g,p.1≠d
 | [],_,p,hp=>by cases hp
 | (s,b)::g,h,p,hp=>by
  unfold atomG at h
  rw [Bool.or_eq_false_iff] at h
  rcases List.mem_cons.1 hp with rfl | hp
  ·intro e;rw [← e] at h;simp at h
  ·exact atomG_ok h.2 p hp
theorem sbT_mem {g:Gd}:∀ {C:List CE} {T:Tb},sbT g C=some T→∀ p∈T,∃ gx,(p.1,gx,p.2)∈C∧subG gx g=true
 | [],T,h,p,hp=>by unfold sbT at h;cases h;cases hp
 | (t,gx,v)::C,T,h,p,hp=>by
  unfold sbT at h
  split at h
  ·rename_i T0 h0
   split at h
   ·rename_i hs
    cases h
    rcases List.mem_cons.1 hp with rfl | hp
    ·exact ⟨gx,List.mem_cons_self,hs⟩
    ·obtain ⟨g1,h1,h2⟩:=sbT_mem h0 p hp
     exact ⟨g1,List.mem_cons_of_mem _ h1,h2⟩
   ·cases h
    obtain ⟨g1,h1,h2⟩:=sbT_mem h0 p hp
    exact ⟨g1,List.mem_cons_of_mem _ h1,h2⟩
  ·cases h
theorem look_app {A B:Tb} {t:Nat} {v:Value} (h:look (A++B) t=some v):(t,v)∈A∨look B t=some v:=by
 induction A with
 | nil=>exact .inr h
 | cons p A ih=>
  obtain ⟨k,u⟩:=p
  rw [List.cons_append,look_cons] at h
  split at h
  ·rename_i hk;subst hk;cases h;exact .inl List.mem_cons_self
  ·exact (ih h).imp (List.mem_cons_of_mem _) id
theorem FrC.sub (fr:FrC N T0 C a) (hg:holdsG a G) (h:sbT G C=some T):Fr N (T++T0) a:=⟨fr.fr.df,fr.fr.sz,fun t v hl=>by
 rcases look_app hl with hl | hl
 ·obtain ⟨gx,h1,h2⟩:=sbT_mem h _ hl
  exact fr.y _ h1 fun p hp=>hg p (subG_ok h2 p hp)
 ·exact fr.fr.get t v hl⟩
theorem appO_eq:∀ {A B R:Tb},appO A B=some R→R=A++B
 | [],B,R,h=>by unfold appO at h;cases h;rfl
 | p::A,B,R,h=>by
  unfold appO at h
  split at h
  ·rename_i R0 h0;cases h;rw [appO_eq h0];rfl
  ·cases h
theorem delT_ok {d:Nat}:∀ {T R:Tb},delT d T=some R→look R d=none∧∀ t,t≠d→look R t=look T t
 | [],R,h=>by unfold delT at h;cases h;exact ⟨rfl,fun _ _=>rfl⟩
 | (k,u)::T,R,h=>by
  unfold delT at h
  split at h
  ·rename_i R0 h0
   obtain ⟨h1,h2⟩:=delT_ok h0
   split at h
   ·rename_i hk
    cases h
    refine ⟨h1,fun t ht=>?_⟩
    rw [look_cons,if_neg (by rw [Nat.eq_of_beq_eq_true hk];exact fun e=>ht e.symm),h2 t ht]
   ·rename_i hk
    cases h
    refine ⟨?_,fun t ht=>?_⟩
    ·rw [look_cons,if_neg (by intro e;rw [e] at hk;simp at hk),h1]
    ·rw [look_cons,look_cons,h2 t ht]
  ·cases h
theorem Fr.put_o (fr:Fr N T a) (hd:look T d=none) (u:Value):Fr N T (a.put (some d) u):=⟨fr.df,by simpa [Act.put] using fr.sz,fun t v hl=>by
 rw [getD_put_other (fun e=>by rw [e,hl] at hd;cases hd)]
 exact fr.get t v hl⟩
theorem rmv_ok {d:Nat}:∀ {C R:List CE},rmv d C=some R→∀ e∈R,e∈C∧e.1≠d∧atomG d e.2.1=false
 | [],R,h,e,he=>by unfold rmv at h;cases h;cases he
 | (t,g,v)::C,R,h,e,he=>by
  unfold rmv at h
  split at h
  ·rename_i R0 h0
   split at h
   ·cases h
    obtain ⟨h1,h2⟩:=rmv_ok h0 e he
    exact ⟨List.mem_cons_of_mem _ h1,h2⟩
   ·rename_i ht
    split at h
    ·cases h
    ·rename_i ha
     cases h
     rcases List.mem_cons.1 he with rfl | he
     ·exact ⟨List.mem_cons_self,fun e=>by simp only at e;rw [e] at ht;simp at ht,ha⟩
     ·obtain ⟨h1,h2⟩:=rmv_ok h0 e he
      exact ⟨List.mem_cons_of_mem _ h1,h2⟩
  ·cases h
theorem findG_ok {s:Nat}:∀ {C:List CE} {g:Gd},findG s C=some g→∃ b,(s,g,Value.bool b)∈C
 | (t,g0,v)::C,g,h=>by
  unfold findG at h
  split at h
  ·rename_i ht
   split at h
   ·cases h;rw [Nat.eq_of_beq_eq_true ht];exact ⟨_,List.mem_cons_self⟩
   ·cases h
  ·obtain ⟨b,hb⟩:=findG_ok h
   exact ⟨b,List.mem_cons_of_mem _ hb⟩
theorem want_slot {j s:Nat} {b:Bool} (hs:dstAt ops j=some s) (h:a.tmps.getD s undef = .bool b) (c:Bool):Region.wanted ⟨dd,op,ty,pos,af,some (j,c)⟩ (yielded ops a.tmps)=(b == c):=by
 simp [Region.wanted,yielded_of hs h]
theorem cnd_ok (fr:FrC N T0 C a) (h:cndG ops T0 C g=some G):(holdsG a G∧Region.wanted ⟨dd,op,ty,pos,af,g⟩ (yielded ops a.tmps)=true)∨(¬ holdsG a G∧Region.wanted ⟨dd,op,ty,pos,af,g⟩ (yielded ops a.tmps)=false):=by
 unfold cndG at h
 split at h
 ·cases h
  exact .inl ⟨fun p hp=>(by cases hp),rfl⟩
 ·rename_i j b
  split at h
  ·rename_i s hs
   split at h
   ·rename_i gs hf
    cases h
    obtain ⟨vb,hm⟩:=findG_ok hf
    by_cases hg:holdsG a gs
    ·have hv:=fr.y _ hm hg
     simp only at hv
     by_cases hb:vb=b
     ·subst hb
      refine .inl ⟨fun p hp=>?_,?_⟩
      ·rcases List.mem_cons.1 hp with rfl | hp
       ·exact hv
       ·exact hg p hp
      ·rw [want_slot hs hv];simp
     ·refine .inr ⟨fun hh=>hb ?_,?_⟩
      ·have h1:=hh _ List.mem_cons_self
       rw [hv] at h1
       simpa using h1
      ·rw [want_slot hs hv];simpa using hb
    ·have hv:=fr.n _ hm hg
     simp only at hv
     refine .inr ⟨fun hh=>hg fun p hp=>hh p (List.mem_cons_of_mem _ hp),?_⟩
     have:Fr N [(s,undef)] a:=⟨fr.fr.df,fr.fr.sz,fun t v hl=>by
      rw [look_cons] at hl
      split at hl
      ·rename_i hk;subst hk;cases hl;exact hv
      ·cases hl⟩
     exact this.unwant_u rfl hs (by rw [look_cons,if_pos rfl])
   ·split at h
    ·rename_i vb hl
     cases h
     have hv:=fr.fr.get _ _ hl
     by_cases hb:vb=b
     ·subst hb
      refine .inl ⟨fun p hp=>?_,?_⟩
      ·rcases List.mem_cons.1 hp with rfl | hp
       ·exact hv
       ·cases hp
      ·rw [want_slot hs hv];simp
     ·refine .inr ⟨fun hh=>hb ?_,?_⟩
      ·have h1:=hh _ List.mem_cons_self
       rw [hv] at h1
       simpa using h1
      ·rw [want_slot hs hv];simpa using hb
    ·cases h
  ·cases h
theorem holds_put {u:Value} (hd:d<a.tmps.size) (hg:atomG d G=false):holdsG (a.put (some d) u) G↔holdsG a G:=by
 constructor
 ·intro h p hp
  have:=h p hp
  rwa [getD_put_other (fun e=>atomG_ok hg p hp e.symm)] at this
 ·intro h p hp
  rw [getD_put_other (fun e=>atomG_ok hg p hp e.symm)]
  exact h p hp
theorem FrC.put (fr:FrC N T0 C a) (hT:Fr N T1 (a.put (some d) v)) (hd:d<N.1) (hr:rmv d C=some R) (hg:atomG d G=false) {u:Value} (hy:holdsG a G→v=u) (hn:¬ holdsG a G→v=undef):FrC N T1 ((d,G,u)::R) (a.put (some d) v):=by
 have hs:d<a.tmps.size:=by rw [fr.fr.sz];exact hd
 refine ⟨hT,fun e he h=>?_,fun e he h=>?_⟩
 ·rcases List.mem_cons.1 he with rfl | he
  ·rw [getD_put_same hs];exact hy ((holds_put hs hg).1 h)
  ·obtain ⟨h1,h2,h3⟩:=rmv_ok hr e he
   rw [getD_put_other (fun e=>h2 e.symm)]
   exact fr.y e h1 ((holds_put hs h3).1 h)
 ·rcases List.mem_cons.1 he with rfl | he
  ·rw [getD_put_same hs];exact hn fun h'=>h ((holds_put hs hg).2 h')
  ·obtain ⟨h1,h2,h3⟩:=rmv_ok hr e he
   rw [getD_put_other (fun e=>h2 e.symm)]
   exact fr.n e h1 fun h'=>h ((holds_put hs h3).2 h')
theorem ev_len {hs hs' x y:List Nat} {c:List PC} (h:evC T0 C L hs G op=some (v,hs',x,y,c)):x.length=y.length∧isDef op=false:=by
 unfold evC at h
 split at h
 ·refine ⟨?_,rfl⟩
  repeat' split at h
  all_goals first | (cases h;done) | (simp only [Option.some.injEq,Prod.mk.injEq] at h;obtain ⟨_,_,rfl,rfl,_⟩:=h;rfl)
 ·split at h
  ·exact ⟨vOp_hs h,def_no h⟩
  ·cases h
theorem ev_ok {hs hs' x y:List Nat} {c:List PC} (fr:FrC N T0 C a) (hg:holdsG a G) (hp:Hp e L w) (h:evC T0 C L hs G op=some (v,hs',x,y,c)) (hxy:x=y) (hc:c.all (·.ok P)=true):(execOp a.eval ⟨dd,op,ty,pos,af,g⟩).run P w = .ok (.value v) w:=by
 unfold evC at h
 split at h
 ·rename_i tc x y
  split at h
  ·rename_i T hT
   have f0:=fr.sub hg hT
   split at h
   ·rename_i cb hl
    split at h
    ·rename_i T1 T2 h1 h2
     split at h
     ·rename_i bx b hx hy
      rw [pkO_eq] at h
      cases h
      have hv:a.eval (.tmp tc) = .bool cb:=f0.evT (x := .tmp tc) hl
      cases cb with
      | true=>
       have f1:=fr.sub (G:=(tc,true)::G) (fun p hp=>by
        rcases List.mem_cons.1 hp with rfl | hp
        ·exact f0.get _ _ hl
        ·exact hg p hp) h1
       have he:pkB x y true bx b=bx:=by
        unfold pkB
        split
        ·simp
        ·cases hx;rfl
        ·simp
       rw [he]
       exact x_pick_t rfl hv (f1.evT hx)
      | false=>
       have f1:=fr.sub (G:=(tc,false)::G) (fun p hp=>by
        rcases List.mem_cons.1 hp with rfl | hp
        ·exact f0.get _ _ hl
        ·exact hg p hp) h2
       have he:pkB x y false bx b=b:=by
        unfold pkB
        split
        ·cases hy;rfl
        ·simp
        ·simp
       rw [he]
       exact x_pick_f rfl hv (f1.evT hy)
     ·cases h
    ·cases h
   ·cases h
  ·cases h
 ·split at h
  ·rename_i T hT
   exact vOp_ok h hxy hc a w (fr.sub hg hT) hp
  ·cases h
theorem runC_ok:∀ (k:Nat) {hs xs ys xs' ys':List Nat} {cs cs':List PC} {T0:Tb} {C:List CE} {T':Tb} {l rest:List Oper},runC ops L k hs T0 C xs ys cs l=some (rest,T',xs',ys',cs')→xs'=ys'→xs.length=ys.length→cs'.all (·.ok P)=true→dsV N.1 k l=true→ZL P r n ops Q rest N T' e L→(∀ w,Hp e L w→Ok r Q→∀ a,FrC N T0 C a→wpListIn (Wd r) n P ops Q l a w)∧xs=ys∧cs.all (·.ok P)=true:=by
 intro k
 induction k with
 | zero=>
  intro hs xs ys xs' ys' cs cs' T0 C T' l rest h he hl hc _ hz
  unfold runC at h
  split at h
  ·rename_i T hT
   split at h
   ·rename_i R hR
    cases h
    refine ⟨fun w hp ok a fr=>hz w hp ok a ?_,he,hc⟩
    rw [appO_eq hR]
    exact fr.sub (G:=[]) (fun p hp=>(by cases hp)) hT
   ·cases h
  ·cases h
 | succ k ih=>
  intro hs xs ys xs' ys' cs cs' T0 C T' l rest h he hl hc hd hz
  match l with
  | []=>unfold runC at h;cases h
  | ⟨none,op,ty,pos,af,g⟩::l=>unfold runC at h;cases h
  | ⟨some d,op,ty,pos,af,g⟩::l=>
   unfold dsV at hd
   simp only [Bool.and_eq_true] at hd
   unfold runC at h
   split at h
   ·rename_i G hG
    split at h
    ·rename_i R hR hat
     split at h
     ·rename_i v hs' x y c hv
      obtain ⟨hlen,hdf⟩:=ev_len hv
      have hdN:d<N.1:=Nat.le_of_ble_eq_true hd.1
      have key:∀ T1,(∀ a v,FrC N T0 C a→Fr N T1 (a.put (some d) v))→runC ops L k hs' T1 ((d,G,v)::R) (x++xs) (y++ys) (c++cs) l=some (rest,T',xs',ys',cs')→(∀ w,Hp e L w→Ok r Q→∀ a,FrC N T0 C a→wpListIn (Wd r) n P ops Q (⟨some d,op,ty,pos,af,g⟩::l) a w)∧xs=ys∧cs.all (·.ok P)=true:=by
       intro T1 hT1 h
       obtain ⟨hk,he2,hc2⟩:=ih h he (by simp [hl,hlen]) hc hd.2 hz
       obtain ⟨hx,hy⟩:=app_inj hlen he2
       rw [List.all_append,Bool.and_eq_true] at hc2
       refine ⟨fun w hp ok a fr=>?_,hy,hc2.2⟩
       unfold wpListIn
       rcases cnd_ok (dd:=some d) (op:=op) (ty:=ty) (pos:=pos) (af:=af) fr hG with ⟨hg,hw⟩ | ⟨hg,hw⟩
       ·rw [if_pos hw]
        exact ⟨fun _ _=>trivial,uponIn_val hdf (ev_ok fr hg hp hv hx hc2.1) (hk w hp ok _ (fr.put (hT1 a _ fr) hdN hR hat (fun _=>rfl) fun h=>absurd hg h))⟩
       ·rw [if_neg (by rw [hw];exact Bool.false_ne_true)]
        exact ⟨fun _ _=>trivial,hk w hp ok _ (fr.put (hT1 a _ fr) hdN hR hat (fun h=>absurd h hg) fun _=>rfl)⟩
      split at h
      ·rename_i hl0
       exact key _ (fun a v fr=>fr.fr.put_o hl0 v) h
      ·split at h
       ·rename_i T1 hT1
        obtain ⟨h1,h2⟩:=delT_ok hT1
        exact key _ (fun a v fr=>Fr.put_o ⟨fr.fr.df,fr.fr.sz,fun t u ht=>fr.fr.get t u (by rw [← h2 t (fun e=>by rw [e,h1] at ht;cases ht)];exact ht)⟩ h1 v) h
       ·cases h
     ·cases h
    ·cases h
   ·cases h
theorem Zc (k:Nat) (hs:List Nat) {xs ys:List Nat} {cs:List PC} (h:runC ops L k hs T [] [] [] [] l=some (rest,T',xs,ys,cs)) (hb:xs=ys) (z:ZL P r n ops Q rest N T' e L) (hd:dsV N.1 k l=true:=by rfl) (hc:cs.all (·.ok P)=true:=by kernel_rfl):ZL P r n ops Q l N T e L:=fun w hp ok a fr=>(runC_ok k h hb rfl hc hd z).1 w hp ok a ⟨fr,fun e he=>(by cases he),fun e he=>(by cases he)⟩
end
end Go.Proofs.YtpfijldkkfiooaaGreatDoor
namespace Go.Proofs.YtpfijldkkfiooaaGreatDoor
open Go
set_option maxRecDepth 4000
def I64 (x:Int):Prop := -9223372036854775808≤x∧x≤9223372036854775807
theorem i64_in {x:Int} (h:I64 x):i64 x=x:=i64w rfl h
theorem w32_eq (x:Int):w32 x=x%4294967296:=u32m x
theorem ik {k:IntKind} {x y:Int} (h:x=y):pk [Value.int k x]=Value.int k y:=congrArg (Value.int k) h
theorem i64u {b:Int} (hu:U32 b):IntKind.i64.wrap b=b:=i64_of hu
theorem i64i {x:Int} (h:I64 x):IntKind.i64.wrap x=x:=i64w rfl h
theorem tmod_c (x m:Int):(0≤x∧x.tmod m=x%m)∨(x<0∧x.tmod m = -((-x)%m)):=by
 rcases Int.lt_or_le x 0 with h | h
 ·refine .inr ⟨h,?_⟩
  rw [← Int.tmod_eq_emod_of_nonneg (by omega),Int.neg_tmod,Int.neg_neg]
 ·exact .inl ⟨h,Int.tmod_eq_emod_of_nonneg h⟩
theorem tdiv_c (x m:Int):(0≤x∧x.tdiv m=x/m)∨(x<0∧x.tdiv m = -((-x)/m)):=by
 rcases Int.lt_or_le x 0 with h | h
 ·refine .inr ⟨h,?_⟩
  rw [← Int.tdiv_eq_ediv_of_nonneg (by omega),Int.neg_tdiv,Int.neg_neg]
 ·exact .inl ⟨h,Int.tdiv_eq_ediv_of_nonneg h⟩
theorem c166 (x:Int):Sp Tryz.prog 166 [.int .i64 x] [] fun K=>K (.returned (.int .u32 (w32 x))) []:=by
 have hx:=tmod_c x 4294967296
 refine Zen Tryz.func166 U U U fun e X Φ hS=>Zsr<|Zy U<|Zns<|Zm U<|Zv (yrem U U (by decide) U)<|Zy U<|Znl ?_
 refine Zxq<|Zsr<|Zb 2 U<|Zn<|Zif U (fun h6=>?_) (fun h6=>?_)
 refine Zrg<|Zm U<|Zv (yadd U U (i64w U (by omega)))<|Zy U<|Zns<|Zm U<|Zv (ycv Tryz.underlying2 Tryz.underlying40 U (u32w U (by omega)))<|Zy U ?_
 refine Znr<|Zre (.t U .n) hS [] 0 ?_ U U U
 rotate_left
 refine Zks<|Zm U<|Zv (ycv Tryz.underlying2 Tryz.underlying40 U (u32w U (by omega)))<|Zy U<|Znr<|Zre (.t U .n) hS [] 0 ?_ U U U
 rotate_left
 ·refine ik ?_
  rw [w32_eq]
  omega
 ·refine ik ?_
  rw [w32_eq]
  omega
theorem c131 (a b:Int) (ha:U32 a:=by assumption) (hb:U32 b:=by assumption):Sp Tryz.prog 131 [.int .u32 a,.int .u32 b] [] fun K=>K (.returned (.int .u32 (w32 (a+b)))) []:=by
 refine Zen Tryz.func131 U U U fun e X Φ hS=>Zsr<|Zy U<|Zns<|Zm U<|Zv (ycv Tryz.underlying40 Tryz.underlying2 U U)<|Zm U<|Zv (ycv Tryz.underlying40 Tryz.underlying2 U U) ?_
 refine Zv (yadd U U U)<|Zk (c166 ..) [] U U<|Zq<|Zy U<|Znr<|Zre (.t U .n) hS [] 0 ?_ U U U
 refine ik ?_
 rw [i64u ha,i64u hb]
 unfold U32 at ha hb
 rw [i64w rfl (by omega)]
theorem c167 (a b:Int) (ha:U32 a:=by assumption) (hb:U32 b:=by assumption):Sp Tryz.prog 167 [.int .u32 a,.int .u32 b] [] fun K=>K (.returned (.int .u32 (w32 (a-b)))) []:=by
 refine Zen Tryz.func167 U U U fun e X Φ hS=>Zsr<|Zy U<|Zns<|Zm U<|Zv (ycv Tryz.underlying40 Tryz.underlying2 U U)<|Zm U<|Zv (ycv Tryz.underlying40 Tryz.underlying2 U U) ?_
 refine Zv (ysub U U U)<|Zk (c166 ..) [] U U<|Zq<|Zy U<|Znr<|Zre (.t U .n) hS [] 0 ?_ U U U
 refine ik ?_
 rw [i64u ha,i64u hb]
 unfold U32 at ha hb
 rw [i64w rfl (by omega)]
theorem s32m (x:Int):s32 x=if x%4294967296<2147483648 then x%4294967296 else x%4294967296-4294967296:=by
 simp only [s32,IntKind.wrap,IntKind.signed,IntKind.bits]
 simp
 split <;> split <;> omega
theorem sgn_eq {a:Int} (ha:U32 a):sgn a=if a<2147483648 then a else a-4294967296:=by
 unfold U32 at ha
 unfold sgn
 rw [i64_in (by rw [s32m];split <;> exact ⟨by omega,by omega⟩),s32m]
 split <;> split <;> omega
theorem c211 (a:Int) (ha:U32 a:=by assumption):Sp Tryz.prog 211 [.int .u32 a] [] fun K=>K (.returned (.int .i64 (sgn a))) []:=by
 have he:=sgn_eq ha
 have e2:IntKind.i64.wrap a=a:=i64_of ha
 refine Zen Tryz.func211 U U U fun e X Φ hS=>Zsr<|Zy U<|Zns<|Zm U<|Zv (ycv Tryz.underlying40 Tryz.underlying2 U U)<|Zy U<|Znl ?_
 refine Zxq<|Zsr<|Zb 2 U<|Zn<|Zif U (fun h7=>?_) (fun h7=>?_)
 refine Zsr<|Zm U<|Zv (ysub U U U)<|Zy U<|Znr<|Zr1<|Zre (.t U .n) hS [] 0 ?_ U U U
 rotate_left
 refine Zks<|Zb 2 U<|Znr<|Zre (.t U .n) hS [] 0 ?_ U U U
 rotate_left
 ·refine ik ?_
  unfold U32 at ha
  rw [e2] at h7 ⊢
  rw [he,if_neg (by omega)]
  exact i64w rfl (by omega)
 ·refine ik ?_
  rw [e2] at h7 ⊢
  rw [he,if_pos (by omega)]
theorem c212 (x:Int) (h:I64 x):Sp Tryz.prog 212 [.int .i64 x] [] fun K=>K (.returned (.int .i64 (x/4294967296))) []:=by
 have hd:=tdiv_c x 4294967296
 unfold I64 at h
 have e1:IntKind.i64.wrap (x.tdiv 4294967296)=x.tdiv 4294967296:=i64w rfl (by omega)
 have e2:IntKind.i64.wrap (x.tdiv 4294967296*4294967296)=x.tdiv 4294967296*4294967296:=i64w rfl (by omega)
 have e3:IntKind.i64.wrap (x.tdiv 4294967296-1)=x.tdiv 4294967296-1:=i64w rfl (by omega)
 refine Zen Tryz.func212 U U U fun e X Φ hS=>Zsr<|Zy U<|Zns<|Zm U<|Zv (yquo U U (by decide) U)<|Zy U<|Znl ?_
 refine Zxq<|Zsr<|Zb 3 U<|Zgs U U (fun h8=>?_) (fun h8=>?_)
 refine Zg' U U (dT h8)<|Zm U<|Zg' U U (dT h8)<|Zv (ymul U U (i64w U (by omega)))<|Zg' U U (dT h8)<|Zm U<|Zg' U U (dT h8)<|Zv (yne U U)<|Zv (ypt' U (dT h8) U)<|Znl ?_
 refine Znx<|Zif U (fun h13=>?_) (fun h13=>?_)
 refine Zrg<|Zm U<|Zv (ysub U U (i64w U (by omega)))<|Zy U<|Zns<|Zb 2 U<|Znl ?_
 refine Zxr<|Zre (.t U .n) hS [] 0 ?_ U U U
 rotate_left
 refine Zks<|Zb 2 U<|Znr<|Zre (.t U .n) hS [] 0 ?_ U U U
 rotate_left
 refine Zu' U U (dF h8) U<|Zu' U U (dF h8) U<|Zu' U U (dF h8) U<|Zu' U U (dF h8) U<|Zv (ypf' U (dF h8) U)<|Zn<|Zcf U<|Zkn ?_
 refine Zsr<|Zb 2 U<|Znr<|Zre (.t U .n) hS [] 0 ?_ U U U
 rotate_left
 all_goals try rw [e1] at *
 all_goals try rw [e2] at *
 all_goals try rw [e3] at *
 all_goals refine ik ?_
 all_goals omega
theorem mul_bd {a c A C:Int} (h:0≤a∧a<A) (k:0≤c∧c<C):0≤a*c∧a*c<A*C:=
 ⟨Int.mul_nonneg h.1 k.1,Int.lt_of_le_of_lt (Int.mul_le_mul_of_nonneg_left (show c≤C by omega) h.1) (Int.mul_lt_mul_of_pos_right h.2 (by omega))⟩
theorem mul_ab {a c:Int} {A C:Nat} (h : -(A:Int)≤a∧a≤A) (k : -(C:Int)≤c∧c≤C) : -((A*C:Nat):Int)≤a*c∧a*c≤((A*C:Nat):Int):=by
 have h1:a.natAbs≤A:=by omega
 have h2:c.natAbs≤C:=by omega
 have:=Nat.mul_le_mul h1 h2
 rw [← Int.natAbs_mul] at this
 omega
theorem halves (a b:Int):a*b=a*(b%65536)+a*(b/65536)*65536:=by
 have h:b=b%65536+b/65536*65536:=by omega
 rw [Int.mul_assoc,← Int.mul_add,← h]
theorem halves2 (a b:Int):a*b=a%65536*(b%65536)+a/65536*(b%65536)*65536+(a%65536*(b/65536)*65536+a/65536*(b/65536)*4294967296):=by
 rw [halves a b]
 have h1:=halves (b%65536) a
 have h2:=halves (b/65536) a
 rw [Int.mul_comm _ a,Int.mul_comm _ (a%65536),Int.mul_comm _ (a/65536)] at h1 h2
 omega
theorem sgn_b {a:Int} (ha:U32 a) : -((2147483648:Nat):Int)≤sgn a∧sgn a≤((2147483648:Nat):Int):=by
 rw [sgn_eq ha]
 unfold U32 at ha
 split <;> omega
theorem w64m (x:Int):w64 x=x%18446744073709551616:=by simp [w64,IntKind.wrap,IntKind.signed,IntKind.bits]
theorem fdiv_e (x:Int):x.fdiv 4294967296=x/4294967296:=Int.fdiv_eq_ediv_of_nonneg _ (by decide)
theorem mulh_eq {x:Int} (h:I64 x):w32 ((w64 (i64 x)).fdiv 4294967296)=w32 (x/4294967296):=by
 rw [i64_in h,fdiv_e,w64m,w32_eq,w32_eq]
 omega
theorem c172 (a b:Int) (ha:U32 a:=by assumption) (hb:U32 b:=by assumption):Sp Tryz.prog 172 [.int .u32 a,.int .u32 b] [] fun K=>K (.returned (.int .u32 (mulF a b))) []:=by
 have ha':=ha
 have hb':=hb
 unfold U32 at ha' hb'
 have hbm:b.tmod 65536=b%65536:=by have:=tmod_c b 65536;omega
 have hbd:b.tdiv 65536=b/65536:=by have:=tdiv_c b 65536;omega
 have p:=@mul_bd a (b%65536) 4294967296 65536 (by omega) (by omega)
 have q:=@mul_bd a (b/65536) 4294967296 65536 (by omega) (by omega)
 have h:=halves a b
 refine Zen Tryz.func172 U U U fun e X Φ hS=>Zsr<|Zy U<|Zns<|Zm U<|Zv (yrem U U (by decide) U)<|Zv (ycv Tryz.underlying40 Tryz.underlying2 U (i64w U (by omega)))<|Zm U ?_
 refine Zv (yquo U U (by decide) U)<|Zv (ycv Tryz.underlying40 Tryz.underlying2 U U)<|Zb 2 U<|Zns<|Zm U<|Zv (ycv Tryz.underlying40 Tryz.underlying2 U (i64w U (by omega)))<|Zm U ?_
 refine Zv (ymul U U U)<|Zm U<|Zv (ycv Tryz.underlying40 Tryz.underlying2 U (i64w U (by omega)))<|Zm U<|Zv (ymul U U U)<|Zk (c166 ..) [] U U<|Zq<|Zv (ycv Tryz.underlying40 Tryz.underlying2 U U)<|Zv (yrem U U (by decide) U)<|Zv (ymul U U U) ?_
 refine Zv (yadd U U U)<|Zk (c166 ..) [] U U<|Zq<|Zy U<|Znr<|Zre (.t U .n) hS [] 0 ?_ U U U
 refine ik ?_
 unfold mulF
 rw [h,hbm,hbd]
 generalize a*(b%65536)=x at *
 have e1:IntKind.u32.wrap (b/65536)=b/65536:=w32_of ⟨by omega,by omega⟩
 have e2:IntKind.i64.wrap (b/65536)=b/65536:=i64i ⟨by omega,by omega⟩
 rw [e1,e2]
 generalize a*(b/65536)=y at *
 rw [i64i (x:=x) ⟨by omega,by omega⟩,i64i (x:=y) ⟨by omega,by omega⟩,w32_eq y]
 have e3:=tmod_c (y%4294967296) 65536
 rw [i64i (x:=y%4294967296) ⟨by omega,by omega⟩,show (y%4294967296).tmod 65536=y%65536 by omega,i64i (x:=y%65536*65536) ⟨by omega,by omega⟩,i64i (x:=x+_) ⟨by omega,by omega⟩,w32_eq,w32_eq]
 omega
theorem c173 (a b:Int) (ha:U32 a:=by assumption) (hb:U32 b:=by assumption):Sp Tryz.prog 173 [.int .u32 a,.int .u32 b] [] fun K=>K (.returned (.int .u32 (mulhF a b))) []:=by
 have h:=mul_ab (sgn_b ha) (sgn_b hb)
 have h2:I64 (sgn a*sgn b):=⟨by omega,by omega⟩
 have h3:=mulh_eq h2
 refine Zen Tryz.func173 U U U fun e X Φ hS=>Zsr<|Zy U<|Zns<|Zm U<|Zk (c211 ..) [] U U<|Zq<|Zm U ?_
 refine Zk (c211 ..) [] U U<|Zq<|Zv (ymul U U (i64w U (by omega))) ?_
 refine Zk (c212 _ h2) [] U U<|Zq<|Zk (c166 ..) [] U U<|Zq<|Zy U<|Znr<|Zre (.t U .n) hS [] 0 ?_ U U U
 exact ik h3.symm
theorem c174 (a b:Int) (ha:U32 a:=by assumption) (hb:U32 b:=by assumption):Sp Tryz.prog 174 [.int .u32 a,.int .u32 b] [] fun K=>K (.returned (.int .u32 (mulhsuF a b))) []:=by
 refine Zen Tryz.func174 U U U fun e X Φ hS=>Zsr<|Zy U<|Zns<|Zm U<|Zk (c211 ..) [] U U<|Zq<|Zm U ?_
 refine Zv (ycv Tryz.underlying40 Tryz.underlying2 U U)<|Zv (ymul U U U) ?_
 have h:=mul_ab (C:=4294967295) (sgn_b ha) (show _∧b≤_ by unfold U32 at hb;omega)
 have h2:I64 (sgn a*b):=⟨by omega,by omega⟩
 have h3:=mulh_eq h2
 rw [show IntKind.i64.wrap b=b from i64u hb,show IntKind.i64.wrap (sgn a*b)=sgn a*b from i64i h2]
 refine Zk (c212 _ h2) [] U U<|Zq<|Zk (c166 ..) [] U U<|Zq<|Zy U<|Znr<|Zre (.t U .n) hS [] 0 ?_ U U U
 unfold mulhsuF
 rw [i64_of hb]
 exact ik h3.symm
theorem c175 (a b:Int) (ha:U32 a:=by assumption) (hb:U32 b:=by assumption):Sp Tryz.prog 175 [.int .u32 a,.int .u32 b] [] fun K=>K (.returned (.int .u32 (mulhuF a b))) []:=by
 have ha':=ha
 have hb':=hb
 unfold U32 at ha' hb'
 have am:a.tmod 65536=a%65536:=by have:=tmod_c a 65536;omega
 have ad:a.tdiv 65536=a/65536:=by have:=tdiv_c a 65536;omega
 have bm:b.tmod 65536=b%65536:=by have:=tmod_c b 65536;omega
 have bd:b.tdiv 65536=b/65536:=by have:=tdiv_c b 65536;omega
 have p:=@mul_bd (a%65536) (b%65536) 65536 65536 (by omega) (by omega)
 have q:=@mul_bd (a/65536) (b%65536) 65536 65536 (by omega) (by omega)
 have r:=@mul_bd (a%65536) (b/65536) 65536 65536 (by omega) (by omega)
 have s:=@mul_bd (a/65536) (b/65536) 65536 65536 (by omega) (by omega)
 have h:=halves2 a b
 have hab:=mul_bd ha' hb'
 have hu:mulhuF a b=w32 (a*b/4294967296):=by
  unfold mulhuF
  rw [fdiv_e,w64m a,w64m b,w64m,Int.emod_eq_of_lt (a:=a) (by omega) (by omega),Int.emod_eq_of_lt (a:=b) (by omega) (by omega),Int.emod_eq_of_lt (by omega) (by omega)]
 rw [hu,h]
 refine Zen Tryz.func175 U U U fun e X Φ hS=>Zsr<|Zy U<|Zns<|Zm U<|Zv (yrem U U (by decide) U)<|Zv (ycv Tryz.underlying40 Tryz.underlying2 U (i64w U (by omega)))<|Zm U ?_
 refine Zv (yquo U U (by decide) U)<|Zv (ycv Tryz.underlying40 Tryz.underlying2 U U)<|Zm U<|Zv (yrem U U (by decide) U)<|Zv (ycv Tryz.underlying40 Tryz.underlying2 U (i64w U (by omega)))<|Zm U<|Zv (yquo U U (by decide) U)<|Zv (ycv Tryz.underlying40 Tryz.underlying2 U U)<|Zb 2 U ?_
 refine Zb 2 U<|Zns<|Zb 2 U<|Zv (ymul U U U)<|Zb 2 U ?_
 refine Zv (ymul U U U)<|Zv (yadd U U U)<|Zb 2 U<|Zv (ymul U U U)<|Zv (yquo U U (by decide) U)<|Zv (yadd U U U)<|Zy U<|Zn ?_
 refine Zsr<|Zb 2 U<|Zv (ymul U U U)<|Zm U<|Zv (yquo U U (by decide) U)<|Zv (yadd U U U)<|Zk (c166 ..) [] U U<|Zq<|Zy U ?_
 refine Znr<|Zre (.t U .n) hS [] 0 ?_ U U U
 refine ik ?_
 have e1:IntKind.u32.wrap (b/65536)=b/65536:=w32_of ⟨by omega,by omega⟩
 have e2:IntKind.u32.wrap (a/65536)=a/65536:=w32_of ⟨by omega,by omega⟩
 have e3:∀ x:Int,0≤x∧x<65536→IntKind.i64.wrap x=x:=fun x hx=>i64i ⟨by omega,by omega⟩
 rw [am,ad,bm,bd,e1,e2,e3 (a/65536) (by omega),e3 (b/65536) (by omega)]
 generalize a%65536*(b%65536)=x at *
 generalize a/65536*(b%65536)=y at *
 generalize a%65536*(b/65536)=z at *
 generalize a/65536*(b/65536)=t at *
 have e4:∀ x:Int,0≤x∧x<4294967296→IntKind.i64.wrap x=x:=fun x hx=>i64i ⟨by omega,by omega⟩
 have e5:x.tdiv 65536=x/65536:=by have:=tdiv_c x 65536;omega
 rw [e4 x (by omega),e4 y (by omega),e4 z (by omega),e4 t (by omega),e5,e4 (x/65536) (by omega)]
 have e6:∀ x:Int,0≤x∧x<1844674407370955161→IntKind.i64.wrap x=x:=fun x hx=>i64i ⟨by omega,by omega⟩
 rw [e6 (y+z) (by omega),e6 (y+z+x/65536) (by omega),show (y+z+x/65536).tdiv 65536=(y+z+x/65536)/65536 by have:=tdiv_c (y+z+x/65536) 65536;omega,e6 ((y+z+x/65536)/65536) (by omega)]
 rw [i64i (x:=t+_) ⟨by omega,by omega⟩,w32_eq,w32_eq]
 omega
theorem c176 (a b:Int) (ha:U32 a:=by assumption) (hb:U32 b:=by assumption):Sp Tryz.prog 176 [.int .u32 a,.int .u32 b] [] fun K=>K (.returned (.int .u32 (quoF sgn a b))) []:=by
 have hs:=@sgn_ne b hb
 refine Zen Tryz.func176 U U U fun e X Φ hS=>Zsr<|Zy U<|Znqs<|Zb 2 U<|Znl ?_
 refine Znx<|Zif U (fun h6=>?_) (fun h6=>?_)
 refine Zsr<|Zy U<|Znr<|Zr1<|Zre (.t U .n) hS [] 0 ?_ U U U
 rotate_left
 refine Zks<|Zm U<|Zk (c211 ..) [] U U<|Zq<|Zm U<|Zk (c211 ..) [] U U<|Zq<|Zv (yquo U U (by omega) U) ?_
 refine Zk (c166 ..) [] U U<|Zq<|Zy U<|Znr<|Zre (.t U .n) hS [] 0 ?_ U U U
 rotate_left
 ·unfold quoF;rw [if_pos (by assumption)];rfl
 ·unfold quoF;rw [if_neg (by assumption)];rfl
theorem c177 (a b:Int) (ha:U32 a:=by assumption) (hb:U32 b:=by assumption):Sp Tryz.prog 177 [.int .u32 a,.int .u32 b] [] fun K=>K (.returned (.int .u32 (quoF i64 a b))) []:=by
 refine Zen Tryz.func177 U U U fun e X Φ hS=>Zsr<|Zy U<|Znqs<|Zb 2 U<|Znl ?_
 refine Znx<|Zif U (fun h6=>?_) (fun h6=>?_)
 refine Zsr<|Zy U<|Znr<|Zr1<|Zre (.t U .n) hS [] 0 ?_ U U U
 rotate_left
 refine Zks<|Zb 2 U<|Zv (yquo U U (by assumption) U)<|Zy U<|Znr ?_
 refine Zre (.t U .n) hS [] 0 ?_ U U U
 rotate_left
 ·unfold quoF;rw [if_pos (by assumption)];rfl
 ·refine ik ?_
  unfold quoF
  rw [if_neg (by assumption),i64_of ha,i64_of hb,w32_eq,u32m]
  have h1:(a.tdiv b).natAbs≤a.natAbs:=by rw [Int.natAbs_tdiv];exact Nat.div_le_self _ _
  unfold U32 at ha
  rw [i64_in ⟨by omega,by omega⟩]
theorem c178 (a b:Int) (ha:U32 a:=by assumption) (hb:U32 b:=by assumption):Sp Tryz.prog 178 [.int .u32 a,.int .u32 b] [] fun K=>K (.returned (.int .u32 (remF sgn a b))) []:=by
 have hs:=@sgn_ne b hb
 refine Zen Tryz.func178 U U U fun e X Φ hS=>Zsr<|Zy U<|Znqs<|Zb 2 U<|Znl ?_
 refine Znx<|Zif U (fun h6=>?_) (fun h6=>?_)
 refine Zsr<|Zb 2 U<|Znr<|Zr1<|Zre (.t U .n) hS [] 0 ?_ U U U
 rotate_left
 refine Zks<|Zm U<|Zk (c211 ..) [] U U<|Zq<|Zm U<|Zk (c211 ..) [] U U<|Zq<|Zv (yrem U U (by omega) U) ?_
 refine Zk (c166 ..) [] U U<|Zq<|Zy U<|Znr<|Zre (.t U .n) hS [] 0 ?_ U U U
 rotate_left
 ·unfold remF;rw [if_pos (by assumption)];rfl
 ·unfold remF;rw [if_neg (by assumption)];rfl
theorem c179 (a b:Int) (ha:U32 a:=by assumption) (hb:U32 b:=by assumption):Sp Tryz.prog 179 [.int .u32 a,.int .u32 b] [] fun K=>K (.returned (.int .u32 (remF i64 a b))) []:=by
 refine Zen Tryz.func179 U U U fun e X Φ hS=>Zsr<|Zy U<|Znqs<|Zb 2 U<|Znl ?_
 refine Znx<|Zif U (fun h6=>?_) (fun h6=>?_)
 refine Zsr<|Zb 2 U<|Znr<|Zr1<|Zre (.t U .n) hS [] 0 ?_ U U U
 rotate_left
 refine Zks<|Zb 2 U<|Zv (yrem U U (by assumption) U)<|Zy U<|Znr ?_
 refine Zre (.t U .n) hS [] 0 ?_ U U U
 rotate_left
 ·unfold remF;rw [if_pos (by assumption)];rfl
 ·refine ik ?_
  unfold remF
  rw [if_neg (by assumption),i64_of ha,i64_of hb]
  have h1:(a.tmod b).natAbs≤a.natAbs:=by rw [Int.natAbs_tmod];exact Nat.mod_le _ _
  unfold U32 at ha
  have h2:0≤a.tmod b:=Int.tmod_nonneg _ ha.1
  exact (w32_of ⟨by omega,by omega⟩).symm
theorem pw:∀ k:_root_.Fin 32,IntKind.i64.wrap (2 ^ k.1*2)=2 ^ (k.1+1):=by decide +kernel
theorem up1 {i:Nat} (h:i<4294967295):IntKind.u32.wrap ((i:Int)+1)=((i+1:Nat):Int):=by rw [u32m];omega
theorem iv {k:IntKind} {x y:Int} (h:x=y):some (Value.int k x)=some (.int k y):=congrArg (fun z=>some (Value.int k z)) h
theorem m32 {n:Int} (hn:U32 n):n.tmod 32=n%32:=by have:=tmod_c n 32;unfold U32 at hn;omega
theorem dbl (a:Int) (i:Nat):w32 (IntKind.i64.wrap (IntKind.i64.wrap (w32 (a*2 ^ i))*2))=w32 (a*2 ^ (i+1)):=by
 have h:=w32_u (a*2 ^ i)
 rw [i64u h]
 unfold U32 at h
 rw [i64i ⟨by omega,by omega⟩,w32_eq,w32_eq,w32_eq,Int.pow_succ,← Int.mul_assoc]
 omega
theorem c210 (n:Int) (hn:U32 n:=by assumption):Sp Tryz.prog 210 [.int .u32 n] [] fun K=>K (.returned (.int .i64 (2 ^ (n%32).toNat))) []:=by
 have hm:=m32 hn
 refine Zen Tryz.func210 U U U fun e X Φ hS=>Zsr<|Zy U<|Zns<|Zy U<|Znq ?_
 refine Zsr<|Zy U<|Znb ?_
 refine Zlq (ι:={ i:Nat // i≤(n%32).toNat }) (fun i=>[(4,.int .u32 (i.1:Int)),(3,.int .i64 (2 ^ i.1)),(0,.int .u32 n)]) (fun _=>[]) (fun i=>(n%32).toNat-i.1) ⟨0,Nat.zero_le _⟩ ⟨U,U,U,trivial⟩ [] U fun i=>Zsq<|Zsr<|Zb 2 U<|Zv (yrem U U (by decide) U)<|Zv (ylt U U)<|Zn<|Zif U (fun h8=>?_) (fun h8=>?_)
 refine Zkn<|Zsq<|Zbl<|Zrg<|Zm U<|Zv (ymul U U U)<|Zy U<|Znl<|Zxn ?_
 refine Znx<|Zrg<|Zm U<|Zv (yadd U U U)<|Zy U<|Znl ?_
 rotate_left
 refine Zex<|Zxt<|Zxt<|Zxx<|Zxs<|Zb 2 U<|Zn ?_
 refine Zrt<|Zre (.t U .n) hS [] 0 ?_ U U U
 rotate_left
 ·refine Zlr ⟨i.1+1,by omega⟩ (by show (n%32).toNat-(i.1+1)<(n%32).toNat-i.1;omega) ⟨iv (up1 (by omega)),iv (pw ⟨i.1,by omega⟩),U,trivial⟩ [] 0 U U
 ·have hq:i.1=(n%32).toNat:=by have:=i.2;omega
  exact ik (by rw [hq])
theorem c169 (a n:Int) (ha:U32 a:=by assumption) (hn:U32 n:=by assumption):Sp Tryz.prog 169 [.int .u32 a,.int .u32 n] [] fun K=>K (.returned (.int .u32 (w32 (a*2 ^ (n%32).toNat)))) []:=by
 have hm:=m32 hn
 refine Zen Tryz.func169 U U U fun e X Φ hS=>Zsr<|Zy U<|Znqs<|Zy U<|Zn ?_
 refine Zbl ?_
 refine Zlq (ι:={ i:Nat // i≤(n%32).toNat }) (fun i=>[(5,.int .u32 (i.1:Int)),(0,.int .u32 (w32 (a*2 ^ i.1))),(1,.int .u32 n)]) (fun _=>[]) (fun i=>(n%32).toNat-i.1) ⟨0,Nat.zero_le _⟩ ⟨U,iv (by rw [Int.pow_zero,Int.mul_one,w32_of ha]),U,trivial⟩ [] U fun i=>Zsq<|Zsr<|Zb 2 U<|Zv (yrem U U (by decide) U)<|Zv (ylt U U)<|Zn<|Zif U (fun h9=>?_) (fun h9=>?_)
 refine Zkn<|Zsq<|Zbl<|Zrg<|Zm U<|Zv (ycv Tryz.underlying40 Tryz.underlying2 U U)<|Zv (ymul U U U)<|Zk (c166 ..) [] U U<|Zq ?_
 refine Zy U<|Znl<|Zxn<|Znx<|Zrg<|Zm U<|Zv (yadd U U U)<|Zy U<|Znl ?_
 rotate_left
 refine Zex<|Zxt<|Zxt<|Zxx<|Zxs<|Zb 2 U<|Zn ?_
 refine Zrt<|Zre (.t U .n) hS [] 0 ?_ U U U
 rotate_left
 ·refine Zlr ⟨i.1+1,by omega⟩ (by show (n%32).toNat-(i.1+1)<(n%32).toNat-i.1;omega) ⟨iv (up1 (by omega)),iv (dbl a i.1),U,trivial⟩ [] 0 U U
 ·have hq:i.1=(n%32).toNat:=by have:=i.2;omega
  exact ik (by rw [hq])
theorem pow_b (k:Nat) (h:k<32):1≤(2:Int) ^ k∧(2:Int) ^ k≤2147483648:=by
 have h1:(2:Nat) ^ k≤2 ^ 31:=Nat.pow_le_pow_right (by decide) (by omega)
 have h2:0<(2:Nat) ^ k:=Nat.pos_of_neZero _
 have h3:(2:Int) ^ k=((2 ^ k:Nat):Int):=by exact_mod_cast rfl
 omega
theorem tn32 {n:Int} (hn:U32 n):(n%32).toNat<32:=by unfold U32 at hn;omega
theorem andF_31 {n:Int} (hn:U32 n):andF n 31=n%32:=by
 obtain ⟨k,rfl,hk⟩:∃ k:Nat,n=k∧k<4294967296:=⟨n.toNat,by unfold U32 at hn;omega,by unfold U32 at hn;omega⟩
 unfold andF
 rw [BitVec.toNat_and,BitVec.toNat_ofInt,show (BitVec.ofInt 32 31).toNat=2 ^ 5-1 from rfl,Nat.and_two_pow_sub_one_eq_mod,w32_of ⟨by omega,by omega⟩]
 omega
theorem m31_eq {n:Int} (hn:U32 n):min (m31 (andF n 31)).toNat 32=(n%32).toNat:=by
 have h:U32 (n%32):=by unfold U32 at hn ⊢;omega
 have:m31 (n%32)=n%32:=by
  have:=andF_31 h
  unfold andF at this
  unfold m31
  rw [this];omega
 rw [andF_31 hn,this]
 omega
theorem c170 (a n:Int) (ha:U32 a:=by assumption) (hn:U32 n:=by assumption):Sp Tryz.prog 170 [.int .u32 a,.int .u32 n] [] fun K=>K (.returned (.int .u32 (sr31 a n))) []:=by
 have hp:=pow_b _ (tn32 hn)
 have e:sr31 a n=a/2 ^ (n%32).toNat:=by
  unfold sr31 shrF
  rw [m31_eq hn,Int.fdiv_eq_ediv_of_nonneg _ (by omega)]
 rw [e]
 have hne:(2:Int) ^ (n%32).toNat≠0:=by omega
 refine Zen Tryz.func170 U U U fun e X Φ hS=>Zsr<|Zy U<|Zns<|Zm U<|Zv (ycv Tryz.underlying40 Tryz.underlying2 U U)<|Zm U<|Zk (c210 ..) [] U U ?_
 refine Zq<|Zv (yquo U U (by assumption) U)<|Zk (c166 ..) [] U U<|Zq<|Zy U<|Znr<|Zre (.t U .n) hS [] 0 ?_ U U U
 refine ik ?_
 rw [i64u ha]
 unfold U32 at ha
 have hd:=Int.tdiv_eq_ediv_of_nonneg (b:=2 ^ (n%32).toNat) ha.1
 have hb:a/2 ^ (n%32).toNat≤a:=Int.ediv_le_self _ ha.1
 have hb0:0≤a/2 ^ (n%32).toNat:=Int.ediv_nonneg ha.1 (by omega)
 rw [hd,i64i ⟨by omega,by omega⟩]
 exact w32_of ⟨by omega,by omega⟩
theorem flo {x p:Int} (hp:0<p):(x<0→x.tdiv p*p≠x→x.tdiv p-1=x/p)∧(¬ (x<0∧x.tdiv p*p≠x)→x.tdiv p=x/p):=by
 have h:=@Int.tdiv_eq_ediv x p
 rw [Int.sign_eq_one_of_pos hp] at h
 constructor
 ·intro h1 h2
  rw [if_neg (by rintro (h3 | h3);exact absurd h3 (by omega);exact h2 (Int.tdiv_mul_cancel h3))] at h
  omega
 ·intro h1
  rw [if_pos (by
   rcases Int.lt_or_le x 0 with h2 | h2
   ·exact .inr ⟨x.tdiv p,by rw [Int.mul_comm];exact (Classical.not_not.1 fun h3=>h1 ⟨h2,h3⟩).symm⟩
   ·exact .inl h2)] at h
  omega
theorem tdiv_b {x p:Int} {A:Nat} (h : -(A:Int)≤x∧x≤A) : -(A:Int)≤x.tdiv p∧x.tdiv p≤A:=by
 have h1:(x.tdiv p).natAbs≤x.natAbs:=by rw [Int.natAbs_tdiv];exact Nat.div_le_self _ _
 omega
theorem c171 (a n:Int) (ha:U32 a:=by assumption) (hn:U32 n:=by assumption):Sp Tryz.prog 171 [.int .u32 a,.int .u32 n] [] fun K=>K (.returned (.int .u32 (sa31 a n))) []:=by
 have hp:=pow_b _ (tn32 hn)
 have hs:=sgn_b ha
 have e:sa31 a n=w32 (sgn a/2 ^ (n%32).toNat):=by
  unfold sa31 sarF
  rw [m31_eq hn,Int.fdiv_eq_ediv_of_nonneg _ (by omega)]
  have:s32 a=sgn a:=by unfold sgn;rw [i64_in (by rw [s32m];split <;> exact ⟨by omega,by omega⟩)]
  rw [this]
 rw [e]
 have hne:(2:Int) ^ (n%32).toNat≠0:=by omega
 have hf:=@flo (sgn a) (2 ^ (n%32).toNat) (by omega)
 have hd:=tdiv_b (p:=2 ^ (n%32).toNat) hs
 have hm:=mul_ab (A:=2147483648) (C:=2147483648) hd (show _∧(2:Int) ^ (n%32).toNat≤_ by omega)
 have e1:IntKind.i64.wrap ((sgn a).tdiv (2 ^ (n%32).toNat))=(sgn a).tdiv (2 ^ (n%32).toNat):=i64i ⟨by omega,by omega⟩
 have e2:IntKind.i64.wrap ((sgn a).tdiv (2 ^ (n%32).toNat)*2 ^ (n%32).toNat)=(sgn a).tdiv (2 ^ (n%32).toNat)*2 ^ (n%32).toNat:=i64i ⟨by omega,by omega⟩
 refine Zen Tryz.func171 U U U fun e X Φ hS=>Zsr<|Zy U<|Zns<|Zm U<|Zk (c211 ..) [] U U<|Zq<|Zm U ?_
 refine Zk (c210 ..) [] U U<|Zq<|Zb 2 U<|Zns<|Zb 2 U<|Zv (yquo U U (by assumption) U) ?_
 refine Zy U<|Znqs<|Zb 3 U<|Zgs U U (fun h17=>?_) (fun h17=>?_)
 refine Zg' U U (dT h17)<|Zm U<|Zg' U U (dT h17)<|Zm U<|Zg' U U (dT h17)<|Zv (ymul U U U)<|Zg' U U (dT h17)<|Zm U<|Zg' U U (dT h17)<|Zv (yne U U) ?_
 refine Zv (ypt' U (dT h17) U)<|Zn<|Zif U (fun h23=>?_) (fun h23=>?_)
 refine Zrg<|Zm U<|Zv (ysub U U (i64w U (by omega)))<|Zy U<|Zns<|Zm U<|Zk (c166 ..) [] U U<|Zq ?_
 refine Zy U<|Znr<|Zre (.t U .n) hS [] 0 ?_ U U U
 rotate_left
 refine Zks<|Zm U<|Zk (c166 ..) [] U U<|Zq<|Zy U<|Znr ?_
 refine Zre (.t U .n) hS [] 0 ?_ U U U
 rotate_left
 refine Zu' U U (dF h17) U<|Zu' U U (dF h17) U<|Zu' U U (dF h17) U<|Zu' U U (dF h17) U<|Zu' U U (dF h17) U<|Zv (ypf' U (dF h17) U)<|Zn<|Zcf U<|Zsk ?_
 refine Zxs<|Zm U<|Zk (c166 ..) [] U U<|Zq<|Zy U<|Znr<|Zre (.t U .n) hS [] 0 ?_ U U U
 rotate_left
 ·refine ik ?_
  rw [e1,e2] at h23
  rw [e1,hf.1 h17 h23]
 ·refine ik ?_
  rw [e1,e2] at h23
  rw [e1,hf.2 fun h=>h23 h.2]
 ·refine ik ?_
  rw [e1,hf.2 fun h=>h17 h.1]
theorem c134 (a:Int) (ha:U32 a:=by assumption):Sp Tryz.prog 134 [.int .u32 a] [] fun K=>K (.returned (.int .i64 (sgn a))) []:=by
 have he:=sgn_eq ha
 have e2:IntKind.i64.wrap a=a:=i64u ha
 refine Zen Tryz.func134 U U U fun e X Φ hS=>Zsr<|Zy U<|Znqs<|Zb 2 U<|Znl ?_
 refine Znx<|Zif U (fun h4=>?_) (fun h4=>?_)
 refine Zsr<|Zm U<|Zv (ycv Tryz.underlying40 Tryz.underlying2 U U)<|Zv (ysub U U U)<|Zy U<|Znr<|Zr1<|Zre (.t U .n) hS [] 0 ?_ U U U
 rotate_left
 refine Zks<|Zm U<|Zv (ycv Tryz.underlying40 Tryz.underlying2 U U)<|Zy U<|Znr<|Zre (.t U .n) hS [] 0 ?_ U U U
 rotate_left
 ·refine ik ?_
  unfold U32 at ha
  rw [e2,he,if_neg (by omega)]
  exact i64w rfl (by omega)
 ·refine ik ?_
  rw [e2,he,if_pos (by omega)]
theorem c135 (x:Int) (h : -4294967296≤x∧x<4294967296:=by omega):Sp Tryz.prog 135 [.int .i64 x] [] fun K=>K (.returned (.int .u32 (w32 x))) []:=by
 refine Zen Tryz.func135 U U U fun e X Φ hS=>Zsr<|Zy U<|Znqs<|Zb 2 U<|Znl ?_
 refine Znx<|Zif U (fun h4=>?_) (fun h4=>?_)
 refine Zsr<|Zm U<|Zv (yadd U U (i64w U (by omega)))<|Zv (ycv Tryz.underlying2 Tryz.underlying40 U (u32w U (by omega)))<|Zy U<|Znr<|Zr1<|Zre (.t U .n) hS [] 0 ?_ U U U
 rotate_left
 refine Zks<|Zm U<|Zv (ycv Tryz.underlying2 Tryz.underlying40 U (u32w U (by omega)))<|Zy U<|Znr<|Zre (.t U .n) hS [] 0 ?_ U U U
 rotate_left
 all_goals refine ik ?_
 all_goals rw [w32_eq]
 all_goals omega
theorem c137 (b:Bool):Sp Tryz.prog 137 [.bool b] [] fun K=>K (.returned (.int .u32 (truF b))) []:=by
 cases b with
 | false=>
  refine Zen Tryz.func137 U U U fun e X Φ hS=>Zsr<|Zy U<|Znqs<|Zm U<|Zn ?_
  refine Zcf U<|Zks<|Zy U<|Znr<|Zre (.t U .n) hS [] 0 U U U U
 | true=>
  refine Zen Tryz.func137 U U U fun e X Φ hS=>Zsr<|Zy U<|Znqs<|Zm U<|Zn ?_
  refine Zct U<|Zsr<|Zy U<|Znr<|Zr1<|Zre (.t U .n) hS [] 0 U U U U
theorem wid_no {op:Int} (h:∀ k,11≤k→k≤18→op≠k):widF op=0:=by
 have h1:=h 11 (by decide) (by decide)
 have h2:=h 12 (by decide) (by decide)
 have h3:=h 13 (by decide) (by decide)
 have h4:=h 14 (by decide) (by decide)
 have h5:=h 15 (by decide) (by decide)
 have h6:=h 16 (by decide) (by decide)
 have h7:=h 17 (by decide) (by decide)
 have h8:=h 18 (by decide) (by decide)
 have hb:∀ k:Int,op≠k→(op == k)=false:=fun k h=>by simpa using h
 simp [widF,widL,lk,hb, *]
theorem c132 (op:Int):Sp Tryz.prog 132 [.int .i64 op] [] fun K=>K (.returned (.int .i64 (widF op))) []:=by
 refine Zen Tryz.func132 U U U fun e X Φ hS=>Zsr<|Zy U<|Znqs<|Zm U<|Zn ?_
 refine Zbl<|Zsq<|Zsr<|Zb 2 U<|Zn<|Zif U (fun h4=>?_) (fun h4=>?_)
 refine Zkn<|Zct' U (dT h4)<|Zsr<|Zy U<|Znr<|Zr2<|Zr1 ?_
 refine Zre (.t U .n) hS [] 0 ?_ U U U
 rotate_left
 refine Zsr<|Zb 2 U<|Zn<|Zif U (fun h4=>?_) (fun h4=>?_)
 refine Zkn<|Zct' U (dT h4)<|Zsr<|Zy U<|Znr<|Zr2<|Zr1 ?_
 refine Zre (.t U .n) hS [] 0 ?_ U U U
 rotate_left
 refine Zrg<|Zb 2 U<|Zn<|Zif U (fun h4=>?_) (fun h4=>?_)
 refine Zsr<|Zy U<|Znr<|Zr2<|Zr1<|Zre (.t U .n) hS [] 0 ?_ U U U
 rotate_left
 refine Zsq<|Zsr<|Zb 2 U<|Zn<|Zif U (fun h8=>?_) (fun h8=>?_)
 refine Zkn<|Zct' U (dT h8)<|Zsr<|Zy U<|Znr<|Zr2<|Zr1 ?_
 refine Zre (.t U .n) hS [] 0 ?_ U U U
 rotate_left
 refine Zsr<|Zb 2 U<|Zn<|Zif U (fun h8=>?_) (fun h8=>?_)
 refine Zkn<|Zct' U (dT h8)<|Zsr<|Zy U<|Znr<|Zr2<|Zr1 ?_
 refine Zre (.t U .n) hS [] 0 ?_ U U U
 rotate_left
 refine Zrg<|Zb 2 U<|Zn<|Zif U (fun h8=>?_) (fun h8=>?_)
 refine Zsr<|Zy U<|Znr<|Zr2<|Zr1<|Zre (.t U .n) hS [] 0 ?_ U U U
 rotate_left
 refine Zsq<|Zsr<|Zb 2 U<|Zn<|Zif U (fun h12=>?_) (fun h12=>?_)
 refine Zkn<|Zct' U (dT h12)<|Zsr<|Zy U<|Znr<|Zr2<|Zr1 ?_
 refine Zre (.t U .n) hS [] 0 ?_ U U U
 rotate_left
 refine Zrg<|Zb 2 U<|Zn<|Zif U (fun h12=>?_) (fun h12=>?_)
 refine Zsr<|Zy U<|Znr<|Zr2<|Zr1<|Zre (.t U .n) hS [] 0 ?_ U U U
 rotate_left
 refine Zsk<|Zxn<|Zxs<|Zy U<|Znr<|Zre (.t U .n) hS [] 0 ?_ U U U
 rotate_left
 all_goals first | (subst op;rfl) | exact ik (wid_no fun k _ _=>by omega).symm
theorem low_eq {n w:Int} (hn:U32 n):lowF n w=if w=1 then n%256 else if w=2 then n%65536 else n:=by
 obtain ⟨k,rfl,hk⟩:∃ k:Nat,n=k∧k<4294967296:=⟨n.toNat,by unfold U32 at hn;omega,by unfold U32 at hn;omega⟩
 unfold lowF
 rw [BitVec.toNat_and,BitVec.toNat_ofInt,show (BitVec.ofInt 32 255).toNat=2 ^ 8-1 from rfl,Nat.and_two_pow_sub_one_eq_mod,
  BitVec.toNat_and,BitVec.toNat_ofInt,show (BitVec.ofInt 32 65535).toNat=2 ^ 16-1 from rfl,Nat.and_two_pow_sub_one_eq_mod,w32_of ⟨by omega,by omega⟩,w32_of ⟨by omega,by omega⟩]
 split
 ·omega
 ·split <;> omega
theorem tm_u {n:Int} (hn:U32 n) (m:Int):n.tmod m=n%m:=Int.tmod_eq_emod_of_nonneg hn.1
theorem td_u {n:Int} (hn:U32 n) (m:Int):n.tdiv m=n/m:=Int.tdiv_eq_ediv_of_nonneg hn.1
theorem c133 (n w:Int) (hn:U32 n:=by assumption):Sp Tryz.prog 133 [.int .u32 n,.int .i64 w] [] fun K=>K (.returned (.int .u32 (lowF n w))) []:=by
 rw [low_eq hn]
 refine Zen Tryz.func133 U U U fun e X Φ hS=>Zsr<|Zy U<|Znqs<|Zm U<|Zn ?_
 refine Zbl<|Zsr<|Zb 2 U<|Zn<|Zif U (fun h6=>?_) (fun h6=>?_)
 refine Zsr<|Zm U<|Zv (yrem U U (by decide) U)<|Zy U<|Znr<|Zr2<|Zr1<|Zre (.t U .n) hS [] 0 ?_ U U U
 rotate_left
 refine Zsr<|Zb 2 U<|Zn<|Zif U (fun h10=>?_) (fun h10=>?_)
 refine Zsr<|Zm U<|Zv (yrem U U (by decide) U)<|Zy U<|Znr<|Zr2<|Zr1<|Zre (.t U .n) hS [] 0 ?_ U U U
 rotate_left
 refine Zsk<|Zxn<|Zxs<|Zb 2 U<|Znr<|Zre (.t U .n) hS [] 0 ?_ U U U
 rotate_left
 ·exact ik (by rw [tm_u hn,if_pos h6])
 ·exact ik (by rw [tm_u hn,if_neg h6,if_pos h10])
 ·exact ik (by rw [if_neg h6,if_neg h10])
def bitN (how:Int) (a b:Nat):Nat:=if how=0 then a ^^^ b else if how=1 then a ||| b else a &&& b
theorem bit_up (how:Int) (a b k:Nat):bitN how (a%2 ^ (k+1)) (b%2 ^ (k+1))=bitN how (a%2 ^ k) (b%2 ^ k)+2 ^ k*bitN how (a/2 ^ k%2) (b/2 ^ k%2):=by
 have h:∀ x:Nat,x%2 ^ (k+1)/2 ^ k=x/2 ^ k%2:=fun x=>by rw [Nat.pow_succ,Nat.mod_mul_right_div_self]
 have g:∀ x:Nat,x%2 ^ (k+1)%2 ^ k=x%2 ^ k:=fun x=>by rw [Nat.pow_succ,Nat.mod_mul_right_mod]
 unfold bitN
 split
 ·rw [← Nat.div_add_mod (a%2 ^ (k+1) ^^^ b%2 ^ (k+1)) (2 ^ k),Nat.xor_div_two_pow,Nat.xor_mod_two_pow,h,h,g,g,Nat.add_comm]
 ·split
  ·rw [← Nat.div_add_mod (a%2 ^ (k+1) ||| b%2 ^ (k+1)) (2 ^ k),Nat.or_div_two_pow,Nat.or_mod_two_pow,h,h,g,g,Nat.add_comm]
  ·rw [← Nat.div_add_mod (a%2 ^ (k+1) &&& b%2 ^ (k+1)) (2 ^ k),Nat.and_div_two_pow,Nat.and_mod_two_pow,h,h,g,g,Nat.add_comm]
theorem bit_lt (how:Int) {a b k:Nat} (h:a<2 ^ k) (h2:b<2 ^ k):bitN how a b<2 ^ k:=by
 unfold bitN
 split
 ·exact Nat.xor_lt_two_pow h h2
 ·split
  ·exact Nat.or_lt_two_pow h h2
  ·exact Nat.lt_of_le_of_lt Nat.and_le_left h
theorem bit_1 {x y:Nat} (hx:x<2) (hy:y<2):bitN 0 x y=(if x≠y then 1 else 0)∧bitN 1 x y=(if 0<x+y then 1 else 0)∧bitN 2 x y=(if x+y=2 then 1 else 0):=by
 have:(x=0∨x=1)∧(y=0∨y=1):=by omega
 rcases this with ⟨rfl | rfl,rfl | rfl⟩ <;> decide
theorem bnx {how:Int} {a b i:Nat} (h:i<32) (hc:bitN how (a/2 ^ i%2) (b/2 ^ i%2)=1):IntKind.u32.wrap (((bitN how (a%2 ^ i) (b%2 ^ i):Nat):Int)+((2 ^ min i 31:Nat):Int))=((bitN how (a%2 ^ (i+1)) (b%2 ^ (i+1)):Nat):Int):=by
 have h1:=bit_up how a b i
 have h2:=bit_lt how (Nat.mod_lt a (Nat.pos_of_neZero (2 ^ (i+1)))) (Nat.mod_lt b (Nat.pos_of_neZero (2 ^ (i+1))))
 have h3:(2:Nat) ^ (i+1)≤2 ^ 32:=Nat.pow_le_pow_right (by decide) (by omega)
 rw [hc,Nat.mul_one] at h1
 rw [Nat.min_eq_left (by omega),u32m]
 omega
theorem bn0 {how:Int} {a b i:Nat} (hc:bitN how (a/2 ^ i%2) (b/2 ^ i%2)=0):((bitN how (a%2 ^ i) (b%2 ^ i):Nat):Int)=((bitN how (a%2 ^ (i+1)) (b%2 ^ (i+1)):Nat):Int):=by
 rw [bit_up how a b i,hc,Nat.mul_zero,Nat.add_zero]
theorem pmx {i:Nat} (h:i<31):IntKind.u32.wrap (((2 ^ min i 31:Nat):Int)*2)=((2 ^ min (i+1) 31:Nat):Int):=by
 have h3:(2:Nat) ^ (i+1)≤2 ^ 31:=Nat.pow_le_pow_right (by decide) (by omega)
 rw [Nat.min_eq_left (by omega),Nat.min_eq_left (by omega),u32m]
 rw [Nat.pow_succ] at *
 omega
theorem pm0 {i:Nat} (h:¬ i<31):((2 ^ min i 31:Nat):Int)=((2 ^ min (i+1) 31:Nat):Int):=by rw [Nat.min_eq_right (by omega),Nat.min_eq_right (by omega)]
theorem bit_of {a i:Nat} (ha:a<4294967296) (h:i<32):(IntKind.u32.wrap ((a:Int).tdiv ((2 ^ min i 31:Nat):Int))).tmod 2=((a/2 ^ i%2:Nat):Int):=by
 rw [Nat.min_eq_left (by omega),Int.tdiv_eq_ediv_of_nonneg (by omega),← Int.natCast_ediv,u32m]
 have:a/2 ^ i≤a:=Nat.div_le_self _ _
 rw [Int.tmod_eq_emod_of_nonneg (by omega)]
 omega
theorem c168n (a b:Nat) (how:Int) (ha:a<4294967296) (hb:b<4294967296) (hh:how=0∨how=1∨how=2):Sp Tryz.prog 168 [.int .u32 (a:Int),.int .u32 (b:Int),.int .i64 how] [] fun K=>K (.returned (.int .u32 ((bitN how a b:Nat):Int))) []:=by
  refine Zen Tryz.func168 U U U fun e X Φ hS=>Zsr<|Zy U<|Zns<|Zb 2 U<|Zn ?_
  refine Zsq<|Zsr<|Zy U<|Znb ?_
  refine Zlq (ι:={ i:Nat // i≤32 }) (fun i=>[(9,.int .i64 (i.1:Int)),(7,.int .u32 ((bitN how (a%2 ^ i.1) (b%2 ^ i.1):Nat):Int)),(8,.int .u32 ((2 ^ min i.1 31:Nat):Int)),(0,.int .u32 a),(1,.int .u32 b),(2,.int .i64 how)]) (fun _=>[]) (fun i=>32-i.1) ⟨0,Nat.zero_le _⟩ ⟨U,iv (by rw [Nat.pow_zero,Nat.mod_one,Nat.mod_one];unfold bitN;simp),U,U,U,U,trivial⟩ [] U fun i=>Zsq<|Zsr<|Zb 2 U<|Zn<|Zif U (fun h13=>?_) (fun h13=>?_)
  refine Zkn<|Zsq<|Zbl<|Zsq<|Zhd [] U U<|Zht 0 U (ym U)<|Zht 1 U (ym U)<|Zht 4 U (ym U)<|Zht 5 U (ym U) ?_
  rotate_left
  refine Zex<|Zxt<|Zxt<|Zxx<|Zxs<|Zb 2 U<|Zn ?_
  refine Zrt<|Zre (.t U .n) hS [] 0 ?_ U U U
  rotate_left
  · have hne:((2 ^ min i.1 31:Nat):Int)≠0:=by have:0<2 ^ min i.1 31:=Nat.pos_of_neZero _;omega
    have hi:i.1<32:=by omega
    have hx:=bit_of ha hi
    have hy:=bit_of hb hi
    have hw:=bit_1 (Nat.mod_lt (a/2 ^ i.1) (show 0<2 by decide)) (Nat.mod_lt (b/2 ^ i.1) (show 0<2 by decide))
    have hz:(a/2 ^ i.1%2+b/2 ^ i.1%2:Nat)<3:=by omega
    have hs:IntKind.u32.wrap (((a/2 ^ i.1%2:Nat):Int)+((b/2 ^ i.1%2:Nat):Int))=((a/2 ^ i.1%2:Nat):Int)+((b/2 ^ i.1%2:Nat):Int):=w32_of ⟨by omega,by omega⟩
    refine Zht 2 U (yquo U U (by assumption) U)<|Zht 3 U (yrem U U (by decide) U)<|Zht 6 U (yquo U U (by assumption) U)<|Zht 7 U (yrem U U (by decide) U)<|Zht 8 U (ya U)<|Zht 9 U (ya U)<|ZHn<|Zxq<|Zsr ?_
    refine Zb 3 U<|Zgs U U (fun h26=>?_) (fun h26=>?_)
    refine Zg' U U (dT h26)<|Zm U<|Zg' U U (dT h26)<|Zm U<|Zg' U U (dT h26)<|Zv (yne U U)<|Zv (ypt' U (dT h26) U)<|Zm U<|Zgs U U (fun h31=>?_) (fun h31=>?_)
    refine Zu' U U (dT h31) U<|Zu' U U (dT h31) U<|Zu' U U (dT h31) U<|Zb 4 U<|Zu' U U (dT h31) U<|Zv (ypt' U (dT h31) U)<|Zm U ?_
    refine Zb 9 U<|Znl ?_
    refine Znx<|Zct U<|Zrg<|Zb 2 U<|Zv (yadd U U U)<|Zy U<|Zns ?_
    refine Zb 2 U<|Zn<|Zif U (fun h55=>?_) (fun h55=>?_)
    refine Zrg<|Zm U<|Zv (ymul U U U)<|Zy U<|Znl<|Zxn<|Znx<|Zrg<|Zm U<|Zv (yadd U U (i64w U (by omega))) ?_
    refine Zy U<|Znl ?_
    rotate_left
    refine Zsk<|Zxn<|Znx<|Zrg<|Zm U<|Zv (yadd U U (i64w U (by omega)))<|Zy U<|Znl ?_
    rotate_left
    refine Zg' U U (dF h31)<|Zm U<|Zg' U U (dF h31)<|Zv (yeq U U)<|Zg' U U (dF h31)<|Zm U<|Zu' U U (dF (by omega)) U<|Zu' U U (dF (by omega)) U<|Zu' U U (dF (by omega)) U<|Zu' U U (dF (by omega)) U ?_
    refine Zg' U U (dF h31)<|Zv (ypf' U (dF (by omega)) U)<|Zv (ypf' U (dF h31) U)<|Zb 4 U ?_
    refine Zu' U U (dF (by omega)) U<|Zu' U U (dF (by omega)) U<|Zu' U U (dF (by omega)) U<|Zu' U U (dF (by omega)) U<|Zg U U<|Zv (ypf' U (dF (by omega)) U)<|Zv (ypf U U)<|Zn<|Zcf U ?_
    refine Zks<|Zb 2 U<|Zn<|Zif U (fun h55=>?_) (fun h55=>?_)
    refine Zrg<|Zm U<|Zv (ymul U U U)<|Zy U<|Znl<|Zxn<|Znx<|Zrg<|Zm U<|Zv (yadd U U (i64w U (by omega))) ?_
    refine Zy U<|Znl ?_
    rotate_left
    refine Zsk<|Zxn<|Znx<|Zrg<|Zm U<|Zv (yadd U U (i64w U (by omega)))<|Zy U<|Znl ?_
    rotate_left
    refine Zu' U U (dF h26) U<|Zu' U U (dF h26) U<|Zu' U U (dF h26) U<|Zv (ypf' U (dF h26) U)<|Zb 3 U<|Zg U U ?_
    refine Zm U<|Zgs U U (fun h34=>?_) (fun h34=>?_)
    refine Zg' U U (dT h34)<|Zm U<|Zg' U U (dT h34)<|Zm U<|Zg' U U (dT h34)<|Zv (yadd U U U)<|Zg' U U (dT h34)<|Zv (ygt U U)<|Zg U U<|Zv (ypt' U (dT h34) U) ?_
    refine Zb 2 U<|Zgs U U (fun h41=>?_) (fun h41=>?_)
    refine Zu' U U (dT h41) U<|Zu' U U (dT h41) U<|Zu' U U (dT h41) U<|Zb 4 U<|Zu' U U (dT h41) U<|Zv (ypt' U (dT h41) U)<|Znl ?_
    refine Znx<|Zct U<|Zrg<|Zb 2 U<|Zv (yadd U U U)<|Zy U<|Zns ?_
    refine Zb 2 U<|Zn<|Zif U (fun h55=>?_) (fun h55=>?_)
    refine Zrg<|Zm U<|Zv (ymul U U U)<|Zy U<|Znl<|Zxn<|Znx<|Zrg<|Zm U<|Zv (yadd U U (i64w U (by omega))) ?_
    refine Zy U<|Znl ?_
    rotate_left
    refine Zsk<|Zxn<|Znx<|Zrg<|Zm U<|Zv (yadd U U (i64w U (by omega)))<|Zy U<|Znl ?_
    rotate_left
    refine Zg' U U (dF h41)<|Zm U<|Zg' U U (dF h41)<|Zv (yeq U U)<|Zg' U U (dF h41)<|Zm U<|Zu' U U (dF (by omega)) U<|Zu' U U (dF (by omega)) U<|Zu' U U (dF (by omega)) U<|Zu' U U (dF (by omega)) U ?_
    refine Zg' U U (dF h41)<|Zv (ypf' U (dF (by omega)) U)<|Zv (ypf' U (dF h41) U)<|Zn<|Zcf U<|Zks<|Zm U ?_
    refine Zv (ylt U U)<|Zn<|Zif U (fun h55=>?_) (fun h55=>?_)
    refine Zrg<|Zm U<|Zv (ymul U U U)<|Zy U<|Znl<|Zxn<|Znx<|Zrg<|Zm U<|Zv (yadd U U (i64w U (by omega))) ?_
    refine Zy U<|Znl ?_
    rotate_left
    refine Zsk<|Zxn<|Znx<|Zrg<|Zm U<|Zv (yadd U U (i64w U (by omega)))<|Zy U<|Znl ?_
    rotate_left
    refine Zu' U U (dF h34) U<|Zu' U U (dF h34) U<|Zu' U U (dF h34) U<|Zu' U U (dF h34) U<|Zg U U<|Zv (ypf' U (dF h34) U)<|Zb 3 U ?_
    refine Zb 2 U<|Zg' U U (dT (by omega))<|Zm U<|Zg' U U (dT (by omega))<|Zm U<|Zg' U U (dT (by omega))<|Zv (yadd U U U) ?_
    refine Zg' U U (dT (by omega))<|Zv (yeq U U)<|Zg U U<|Zv (ypt' U (dT (by omega)) U)<|Zv (ypf U U)<|Zn<|Zif U (fun h50=>?_) (fun h50=>?_)
    refine Zrg<|Zb 2 U<|Zv (yadd U U U)<|Zy U<|Zns<|Zb 2 U ?_
    refine Zn<|Zif U (fun h55=>?_) (fun h55=>?_)
    refine Zrg<|Zm U<|Zv (ymul U U U)<|Zy U<|Znl<|Zxn<|Znx<|Zrg<|Zm U<|Zv (yadd U U (i64w U (by omega))) ?_
    refine Zy U<|Znl ?_
    rotate_left
    refine Zsk<|Zxn<|Znx<|Zrg<|Zm U<|Zv (yadd U U (i64w U (by omega)))<|Zy U<|Znl ?_
    rotate_left
    refine Zks<|Zb 2 U<|Zn<|Zif U (fun h55=>?_) (fun h55=>?_)
    refine Zrg<|Zm U<|Zv (ymul U U U)<|Zy U<|Znl<|Zxn<|Znx<|Zrg<|Zm U<|Zv (yadd U U (i64w U (by omega))) ?_
    refine Zy U<|Znl ?_
    rotate_left
    refine Zsk<|Zxn<|Znx<|Zrg<|Zm U<|Zv (yadd U U (i64w U (by omega)))<|Zy U<|Znl ?_
    rotate_left
    all_goals simp only [hx,hy,hs] at *
    all_goals rcases hh with rfl | rfl | rfl
    all_goals first
      | (exfalso;omega)
      | (refine Zlr ⟨i.1+1,hi⟩ (by show 32-(i.1+1)<32-i.1;omega) ⟨rfl,iv ?_,iv ?_,rfl,rfl,rfl,trivial⟩ [] 0 rfl rfl
         · first | exact bnx hi (by simp only [hw.1,hw.2.1,hw.2.2];exact if_pos (by omega)) | exact bn0 (by simp only [hw.1,hw.2.1,hw.2.2];exact if_neg (by omega))
         · first | exact pmx (by omega) | exact pm0 (by omega))
  · have hq:i.1=32:=by have:=i.2;omega
    exact ik (by rw [hq,Nat.mod_eq_of_lt ha,Nat.mod_eq_of_lt hb])
theorem bit_i {a b:Int} (ha:U32 a) (hb:U32 b):((bitN 0 a.toNat b.toNat:Nat):Int)=xorF a b∧((bitN 1 a.toNat b.toNat:Nat):Int)=orF a b∧((bitN 2 a.toNat b.toNat:Nat):Int)=andF a b:=by
 obtain ⟨m,rfl,hm⟩:∃ k:Nat,a=k∧k<4294967296:=⟨a.toNat,by unfold U32 at ha;omega,by unfold U32 at ha;omega⟩
 obtain ⟨n,rfl,hn⟩:∃ k:Nat,b=k∧k<4294967296:=⟨b.toNat,by unfold U32 at hb;omega,by unfold U32 at hb;omega⟩
 have e:∀ k:Nat,k<4294967296→(BitVec.ofInt 32 (k:Int)).toNat=k:=fun k hk=>by rw [BitVec.toNat_ofInt];omega
 simp only [Int.toNat_natCast]
 refine ⟨?_,?_,?_⟩
 ·unfold xorF
  rw [BitVec.toNat_xor,e m hm,e n hn]
  exact (w32_of ⟨by omega,Int.ofNat_lt.2 (show _<4294967296 from Nat.xor_lt_two_pow (n:=32) hm hn)⟩).symm
 ·unfold orF
  rw [BitVec.toNat_or,e m hm,e n hn]
  exact (w32_of ⟨by omega,Int.ofNat_lt.2 (show _<4294967296 from Nat.or_lt_two_pow (n:=32) hm hn)⟩).symm
 ·unfold andF
  rw [BitVec.toNat_and,e m hm,e n hn]
  exact (w32_of ⟨by omega,Int.ofNat_lt.2 (Nat.lt_of_le_of_lt (@Nat.and_le_left m n) hm)⟩).symm
theorem c168 (a b how:Int) (ha:U32 a:=by assumption) (hb:U32 b:=by assumption) (hh:how=0∨how=1∨how=2:=by decide):Sp Tryz.prog 168 [.int .u32 a,.int .u32 b,.int .i64 how] [] fun K=>K (.returned (.int .u32 ((bitN how a.toNat b.toNat:Nat):Int))) []:=by
 have h:=c168n a.toNat b.toNat how (by unfold U32 at ha;omega) (by unfold U32 at hb;omega) hh
 rw [Int.toNat_of_nonneg ha.1,Int.toNat_of_nonneg hb.1] at h
 exact h
def twoR (op:Int) (a b:Int):Int:=match fd op twoT with | some p=>p.2 a b | none=>remF i64 a b
theorem c136 (op a b:Int) (ha:U32 a:=by assumption) (hb:U32 b:=by assumption):Sp Tryz.prog 136 [.int .i64 op,.int .u32 a,.int .u32 b] [] fun K=>K (.returned (.int .u32 (twoR op a b))) []:=by
 have hm:=tm_u hb 32
 have hb32:U32 (b.tmod 32):=by unfold U32 at hb ⊢;omega
 have e32:(b.tmod 32%32).toNat=(b%32).toNat:=by omega
 have hx:=bit_i ha hb
 have hs:=m31_eq hb
 have hsa:∀ x:Int,sgn x=s32 x:=fun x=>by unfold sgn;exact i64_in (by rw [s32m];split <;> exact ⟨by omega,by omega⟩)
 have hlt:truF (decide (sgn a<sgn b))=ltF a b:=by rw [hsa,hsa];rfl
 have hsl:w32 (a*2 ^ (b.tmod 32%32).toNat)=sl31 a b:=by unfold sl31 shlF;rw [hs,e32]
 have hsr:sr31 a (b.tmod 32)=sr31 a b:=by unfold sr31 shrF;rw [hs,m31_eq hb32,e32]
 have hsa:sa31 a (b.tmod 32)=sa31 a b:=by unfold sa31 sarF;rw [hs,m31_eq hb32,e32]
 have hno:(∀ k,19≤k→k≤46→k≠38→k≠39→op≠k)→remF i64 a b=twoR op a b:=fun h=>by
  by_cases h47:op=47
  ·subst h47;rfl
  ·have hb:∀ k:Int,op≠k→(op == k)=false:=fun k h=>by simpa using h
   have h':∀ k,19≤k→k≤46→k≠38→k≠39→(op == k)=false:=fun k h1 h2 h3 h4=>hb k (h k h1 h2 h3 h4)
   unfold twoR
   have:fd op twoT=none:=by simp [fd,twoT,hb 47 h47,h']
   rw [this]
 refine Zen Tryz.func136 U U U fun e X Φ hS=>Zsr<|Zy U<|Znqs<|Zm U<|Zn ?_
 refine Zbl<|Zsq<|Zsr<|Zb 2 U<|Zn<|Zif U (fun h8=>?_) (fun h8=>?_)
 refine Zkn<|Zct' U (dT h8)<|Zsr<|Zb 2 U<|Zk (c131 ..) [] U U<|Zq<|Zy U<|Znl ?_
 refine Zxr<|Zr2<|Zr1<|Zre (.t U .n) hS [] 0 ?_ U U U
 rotate_left
 refine Zrg<|Zb 2 U<|Zn<|Zif U (fun h8=>?_) (fun h8=>?_)
 refine Zsr<|Zb 2 U<|Zk (c131 ..) [] U U<|Zq<|Zy U<|Znr<|Zr2 ?_
 refine Zr1<|Zre (.t U .n) hS [] 0 ?_ U U U
 rotate_left
 refine Zsr<|Zb 2 U<|Zn<|Zif U (fun h14=>?_) (fun h14=>?_)
 refine Zsr<|Zb 2 U<|Zk (c167 ..) [] U U<|Zq<|Zy U<|Znr<|Zr2 ?_
 refine Zr1<|Zre (.t U .n) hS [] 0 ?_ U U U
 rotate_left
 refine Zsq<|Zsr<|Zb 2 U<|Zn<|Zif U (fun h19=>?_) (fun h19=>?_)
 refine Zkn<|Zct' U (dT h19)<|Zsr<|Zm U<|Zk (c134 ..) [] U U<|Zq<|Zm U<|Zk (c134 ..) [] U U<|Zq ?_
 refine Zv (ylt U U)<|Zk (c137 ..) [] U U<|Zq<|Zy U<|Znr<|Zr2<|Zr1<|Zre (.t U .n) hS [] 0 ?_ U U U
 rotate_left
 refine Zrg<|Zb 2 U<|Zn<|Zif U (fun h19=>?_) (fun h19=>?_)
 refine Zsr<|Zm U<|Zk (c134 ..) [] U U<|Zq<|Zm U<|Zk (c134 ..) [] U U<|Zq<|Zv (ylt U U)<|Zk (c137 ..) [] U U<|Zq ?_
 refine Zy U<|Znr<|Zr2<|Zr1<|Zre (.t U .n) hS [] 0 ?_ U U U
 rotate_left
 refine Zsq<|Zsr<|Zb 2 U<|Zn<|Zif U (fun h28=>?_) (fun h28=>?_)
 refine Zkn<|Zct' U (dT h28)<|Zsr<|Zb 3 U<|Zk (c137 ..) [] U U<|Zq<|Zy U ?_
 refine Znr<|Zr2<|Zr1<|Zre (.t U .n) hS [] 0 ?_ U U U
 rotate_left
 refine Zrg<|Zb 2 U<|Zn<|Zif U (fun h28=>?_) (fun h28=>?_)
 refine Zsr<|Zb 3 U<|Zk (c137 ..) [] U U<|Zq<|Zy U<|Znr ?_
 refine Zr2<|Zr1<|Zre (.t U .n) hS [] 0 ?_ U U U
 rotate_left
 refine Zsq<|Zsr<|Zb 2 U<|Zn<|Zif U (fun h35=>?_) (fun h35=>?_)
 refine Zkn<|Zct' U (dT h35)<|Zsr<|Zb 2 U<|Zk (c168 ..) [] U U<|Zq<|Zy U<|Znl ?_
 refine Zxr<|Zr2<|Zr1<|Zre (.t U .n) hS [] 0 ?_ U U U
 rotate_left
 refine Zrg<|Zb 2 U<|Zn<|Zif U (fun h35=>?_) (fun h35=>?_)
 refine Zsr<|Zb 2 U<|Zk (c168 ..) [] U U<|Zq<|Zy U<|Znr<|Zr2 ?_
 refine Zr1<|Zre (.t U .n) hS [] 0 ?_ U U U
 rotate_left
 refine Zsq<|Zsr<|Zb 2 U<|Zn<|Zif U (fun h41=>?_) (fun h41=>?_)
 refine Zkn<|Zct' U (dT h41)<|Zsr<|Zb 2 U<|Zk (c168 ..) [] U U<|Zq<|Zy U<|Znl ?_
 refine Zxr<|Zr2<|Zr1<|Zre (.t U .n) hS [] 0 ?_ U U U
 rotate_left
 refine Zrg<|Zb 2 U<|Zn<|Zif U (fun h41=>?_) (fun h41=>?_)
 refine Zsr<|Zb 2 U<|Zk (c168 ..) [] U U<|Zq<|Zy U<|Znr<|Zr2 ?_
 refine Zr1<|Zre (.t U .n) hS [] 0 ?_ U U U
 rotate_left
 refine Zsq<|Zsr<|Zb 2 U<|Zn<|Zif U (fun h47=>?_) (fun h47=>?_)
 refine Zkn<|Zct' U (dT h47)<|Zsr<|Zb 2 U<|Zk (c168 ..) [] U U<|Zq<|Zy U<|Znl ?_
 refine Zxr<|Zr2<|Zr1<|Zre (.t U .n) hS [] 0 ?_ U U U
 rotate_left
 refine Zrg<|Zb 2 U<|Zn<|Zif U (fun h47=>?_) (fun h47=>?_)
 refine Zsr<|Zb 2 U<|Zk (c168 ..) [] U U<|Zq<|Zy U<|Znr<|Zr2 ?_
 refine Zr1<|Zre (.t U .n) hS [] 0 ?_ U U U
 rotate_left
 refine Zsq<|Zsr<|Zb 2 U<|Zn<|Zif U (fun h53=>?_) (fun h53=>?_)
 refine Zkn<|Zct' U (dT h53)<|Zsr<|Zb 2 U<|Zv (yrem U U (by decide) U)<|Zk (c169 ..) [] U U<|Zq<|Zy U ?_
 refine Znr<|Zr2<|Zr1<|Zre (.t U .n) hS [] 0 ?_ U U U
 rotate_left
 refine Zrg<|Zb 2 U<|Zn<|Zif U (fun h53=>?_) (fun h53=>?_)
 refine Zsr<|Zb 2 U<|Zv (yrem U U (by decide) U)<|Zk (c169 ..) [] U U<|Zq<|Zy U<|Znr ?_
 refine Zr2<|Zr1<|Zre (.t U .n) hS [] 0 ?_ U U U
 rotate_left
 refine Zsq<|Zsr<|Zb 2 U<|Zn<|Zif U (fun h60=>?_) (fun h60=>?_)
 refine Zkn<|Zct' U (dT h60)<|Zsr<|Zb 2 U<|Zv (yrem U U (by decide) U)<|Zk (c170 ..) [] U U<|Zq<|Zy U ?_
 refine Znr<|Zr2<|Zr1<|Zre (.t U .n) hS [] 0 ?_ U U U
 rotate_left
 refine Zrg<|Zb 2 U<|Zn<|Zif U (fun h60=>?_) (fun h60=>?_)
 refine Zsr<|Zb 2 U<|Zv (yrem U U (by decide) U)<|Zk (c170 ..) [] U U<|Zq<|Zy U<|Znr ?_
 refine Zr2<|Zr1<|Zre (.t U .n) hS [] 0 ?_ U U U
 rotate_left
 refine Zsq<|Zsr<|Zb 2 U<|Zn<|Zif U (fun h67=>?_) (fun h67=>?_)
 refine Zkn<|Zct' U (dT h67)<|Zsr<|Zb 2 U<|Zv (yrem U U (by decide) U)<|Zk (c171 ..) [] U U<|Zq<|Zy U ?_
 refine Znr<|Zr2<|Zr1<|Zre (.t U .n) hS [] 0 ?_ U U U
 rotate_left
 refine Zrg<|Zb 2 U<|Zn<|Zif U (fun h67=>?_) (fun h67=>?_)
 refine Zsr<|Zb 2 U<|Zv (yrem U U (by decide) U)<|Zk (c171 ..) [] U U<|Zq<|Zy U<|Znr ?_
 refine Zr2<|Zr1<|Zre (.t U .n) hS [] 0 ?_ U U U
 rotate_left
 refine Zsr<|Zb 2 U<|Zn<|Zif U (fun h74=>?_) (fun h74=>?_)
 refine Zsr<|Zb 2 U<|Zk (c172 ..) [] U U<|Zq<|Zy U<|Znr<|Zr2 ?_
 refine Zr1<|Zre (.t U .n) hS [] 0 ?_ U U U
 rotate_left
 refine Zsr<|Zb 2 U<|Zn<|Zif U (fun h79=>?_) (fun h79=>?_)
 refine Zsr<|Zb 2 U<|Zk (c173 ..) [] U U<|Zq<|Zy U<|Znr<|Zr2 ?_
 refine Zr1<|Zre (.t U .n) hS [] 0 ?_ U U U
 rotate_left
 refine Zsr<|Zb 2 U<|Zn<|Zif U (fun h84=>?_) (fun h84=>?_)
 refine Zsr<|Zb 2 U<|Zk (c174 ..) [] U U<|Zq<|Zy U<|Znr<|Zr2 ?_
 refine Zr1<|Zre (.t U .n) hS [] 0 ?_ U U U
 rotate_left
 refine Zsr<|Zb 2 U<|Zn<|Zif U (fun h89=>?_) (fun h89=>?_)
 refine Zsr<|Zb 2 U<|Zk (c175 ..) [] U U<|Zq<|Zy U<|Znr<|Zr2 ?_
 refine Zr1<|Zre (.t U .n) hS [] 0 ?_ U U U
 rotate_left
 refine Zsr<|Zb 2 U<|Zn<|Zif U (fun h94=>?_) (fun h94=>?_)
 refine Zsr<|Zb 2 U<|Zk (c176 ..) [] U U<|Zq<|Zy U<|Znr<|Zr2 ?_
 refine Zr1<|Zre (.t U .n) hS [] 0 ?_ U U U
 rotate_left
 refine Zsr<|Zb 2 U<|Zn<|Zif U (fun h99=>?_) (fun h99=>?_)
 refine Zsr<|Zb 2 U<|Zk (c177 ..) [] U U<|Zq<|Zy U<|Znr<|Zr2 ?_
 refine Zr1<|Zre (.t U .n) hS [] 0 ?_ U U U
 rotate_left
 refine Zsr<|Zb 2 U<|Zn<|Zif U (fun h104=>?_) (fun h104=>?_)
 refine Zsr<|Zb 2 U<|Zk (c178 ..) [] U U<|Zq<|Zy U<|Znr<|Zr2 ?_
 refine Zr1<|Zre (.t U .n) hS [] 0 ?_ U U U
 rotate_left
 refine Zsk<|Zxn<|Zxs<|Zb 2 U<|Zk (c179 ..) [] U U<|Zq<|Zy U<|Znl ?_
 refine Zxr<|Zre (.t U .n) hS [] 0 ?_ U U U
 rotate_left
 all_goals refine ik ?_
 all_goals first
  | (subst op;first | rfl | exact hx.1 | exact hx.2.1 | exact hx.2.2 | exact hsl | exact hsr | exact hsa | exact hlt)
  | exact hno fun k h1 h2 h3 h4=>by omega
theorem bv_nat (a:Nat) (h:a<4294967296):(BitVec.ofInt 32 (a:Int)).toNat=a:=by
 rw [BitVec.toNat_ofInt];omega
theorem and_lt' {a b:Nat} (h:b<4294967296):a &&& b<4294967296:=Nat.lt_of_le_of_lt Nat.and_le_right h
theorem andF_nat {a b:Nat} (ha:a<4294967296) (hb:b<4294967296):andF a b=((a &&& b:Nat):Int):=by
 unfold andF
 rw [BitVec.toNat_and,bv_nat a ha,bv_nat b hb]
 exact w32_of ⟨by omega,by have:=@and_lt' a b hb;omega⟩
theorem orF_nat {a b:Nat} (ha:a<4294967296) (hb:b<4294967296):orF a b=((a ||| b:Nat):Int):=by
 unfold orF
 rw [BitVec.toNat_or,bv_nat a ha,bv_nat b hb]
 exact w32_of ⟨by omega,by have:=@Nat.or_lt_two_pow a b 32 ha hb;omega⟩
theorem and_split (w m k:Nat):w &&& m=2 ^ k*((w/2 ^ k) &&& (m/2 ^ k))+((w%2 ^ k) &&& (m%2 ^ k)):=by
 rw [← Nat.and_div_two_pow,← Nat.and_mod_two_pow,Nat.div_add_mod]
theorem and_ones (w k:Nat):w &&& (2 ^ k-1)=w%2 ^ k:=Nat.and_two_pow_sub_one_eq_mod w k
theorem U32.nat {w:Int} (h:U32 w):∃ n:Nat,w=n∧n<4294967296:=⟨w.toNat,by unfold U32 at h;omega,by unfold U32 at h;omega⟩
theorem part_n {w:Int} (hw:U32 w) (hi lo:Nat) (h:lo≤hi) (h2:hi<32) (a b:Nat) (ha:2 ^ lo=a) (hb:2 ^ (hi-lo+1)=b):partF w hi lo=w/a%b:=by
 obtain ⟨n,rfl,hn⟩:=hw.nat
 subst ha hb
 have h32:(2:Nat) ^ (hi-lo+1)≤2 ^ 32:=Nat.pow_le_pow_right (by decide) (by omega)
 have hpos:0<(2:Nat) ^ (hi-lo+1):=Nat.pos_of_neZero _
 unfold partF
 rw [show ((hi:Int)-lo+1).toNat=hi-lo+1 by omega,Int.toNat_natCast,Nat.min_eq_left (by omega),Nat.min_eq_left (by omega)]
 have e0:((n:Int).fdiv (2 ^ lo))=((n/2 ^ lo:Nat):Int):=by
  rw [Int.fdiv_eq_ediv_of_nonneg _ (by exact_mod_cast Nat.zero_le _)]
  exact_mod_cast rfl
 have e1:w32 (w32 (1*2 ^ (hi-lo+1))-1)=((2 ^ (hi-lo+1)-1:Nat):Int):=by
  have hp:(2:Int) ^ (hi-lo+1)=((2 ^ (hi-lo+1):Nat):Int):=by exact_mod_cast rfl
  unfold w32
  rw [u32m,u32m,Int.one_mul,hp]
  generalize 2 ^ (hi-lo+1)=q at *
  omega
 rw [e0,e1,andF_nat (Nat.lt_of_le_of_lt (Nat.div_le_self _ _) hn) (by omega),and_ones]
 norm_cast
theorem part_eq {w:Int} (hw:U32 w) (hi lo a b:Int) (h:lo.toNat≤hi.toNat) (h2:hi.toNat<32) (e1:hi=hi.toNat) (e2:lo=lo.toNat) (ha:((2 ^ lo.toNat:Nat):Int)=a) (hb:((2 ^ (hi.toNat-lo.toNat+1):Nat):Int)=b):partF w hi lo=w/a%b:=by
 subst ha hb
 rw [e1,e2,part_n hw _ _ h h2 _ _ rfl rfl]
 simp only [Int.toNat_natCast]
theorem high_n {w:Int} (hw:U32 w) (n:Nat) (h:n≤31) (a:Nat) (ha:2 ^ n=a):highF w n=if w<2147483648 then 0 else 4294967296-(a:Int):=by
 subst ha
 have hw':=hw
 unfold U32 at hw
 unfold highF
 have e:w.fdiv (2 ^ min 31 32)=w/2147483648:=by
  rw [Int.fdiv_eq_ediv_of_nonneg _ (by decide)];rfl
 rw [e,Int.toNat_natCast,Nat.min_eq_left (by omega)]
 by_cases h0:w<2147483648
 ·rw [if_pos (by omega),if_pos h0]
 ·rw [if_neg (by omega),if_neg h0]
  have hp:(2:Int) ^ n=((2 ^ n:Nat):Int):=by exact_mod_cast rfl
  have h32:(2:Nat) ^ n≤2 ^ 31:=Nat.pow_le_pow_right (by decide) h
  have hpos:0<(2:Nat) ^ n:=Nat.pos_of_neZero _
  unfold w32
  rw [u32m,hp]
  generalize 2 ^ n=q at *
  omega
theorem high_eq {w:Int} (hw:U32 w) (n a:Int) (h:n.toNat≤31) (e:n=n.toNat) (ha:((2 ^ n.toNat:Nat):Int)=a):highF w n=if w<2147483648 then 0 else 4294967296-a:=by
 subst ha
 rw [e,high_n hw _ h _ rfl,Int.toNat_natCast]
theorem or_add {a b:Nat} (k:Nat) (h:b<2 ^ k) (ha:a%2 ^ k=0):a ||| b=a+b:=by
 have:a=2 ^ k*(a/2 ^ k):=by have:=Nat.div_add_mod a (2 ^ k);omega
 rw [this,Nat.two_pow_add_eq_or_of_lt h]
theorem orF_add {a b:Int} (ha:U32 a) (hb:U32 b) (k:Nat) (q:Int) (hq:2 ^ k=q) (h:b<q) (h0:a%q=0):orF a b=a+b:=by
 obtain ⟨m,rfl,hm⟩:=ha.nat
 obtain ⟨n,rfl,hn⟩:=hb.nat
 subst hq
 rw [orF_nat hm hn,or_add k (by exact_mod_cast h) (by exact_mod_cast h0)]
 norm_cast
theorem orF_comm {a b:Int} (ha:U32 a) (hb:U32 b):orF a b=orF b a:=by
 obtain ⟨m,rfl,hm⟩:=ha.nat
 obtain ⟨n,rfl,hn⟩:=hb.nat
 rw [orF_nat hm hn,orF_nat hn hm,Nat.or_comm]
theorem or3 {a b c:Int} (ha:U32 a) (hb:U32 b) (hc:U32 c) (k j:Nat) (q r:Int) (hq:2 ^ k=q) (hr:2 ^ j=r) (h:b<q∧a%q=0) (h2:c<r∧(a+b)%r=0) (hu:U32 (a+b)):orF (orF a b) c=a+b+c:=by
 rw [orF_add ha hb k q hq h.1 h.2,orF_add hu hc j r hr h2.1 h2.2]
theorem sl_eq {a:Int} (n:Nat) (q:Int) (hq:(2:Int) ^ min n 32=q) (h:0≤a*q∧a*q<4294967296):sl a n=a*q:=by
 subst hq;exact w32_of h
theorem tkI_eq {w:Int} (hw:U32 w):tkI w=if w<2147483648 then w/1048576%4096 else w/1048576%4096+4294963200:=by
 unfold tkI
 rw [part_eq hw 31 20 1048576 4096 (by decide) (by decide) rfl rfl rfl rfl,high_eq hw 12 4096 (by decide) rfl rfl]
 rw [orF_comm ⟨by omega,by omega⟩ (by split <;> exact ⟨by omega,by omega⟩),orF_add (by split <;> exact ⟨by omega,by omega⟩) ⟨by omega,by omega⟩ 12 4096 rfl (by omega) (by split <;> decide)]
 split <;> omega
theorem tkS_eq {w:Int} (hw:U32 w):tkS w=if w<2147483648 then w/33554432%128*32+w/128%32 else w/33554432%128*32+w/128%32+4294963200:=by
 unfold tkS
 rw [part_eq hw 30 25 33554432 64 (by decide) (by decide) rfl rfl rfl rfl,part_eq hw 11 7 128 32 (by decide) (by decide) rfl rfl rfl rfl,high_eq hw 11 2048 (by decide) rfl rfl]
 have hw':=hw;unfold U32 at hw'
 have e:sl (w/33554432%64) 5=w/33554432%64*32:=sl_eq 5 32 rfl (by omega)
 rw [e]
 have e1:orF (if w<2147483648 then 0 else 4294967296-2048) (w/33554432%64*32)=(if w<2147483648 then 0 else 4294965248)+w/33554432%64*32:=by
  rw [orF_add (by split <;> exact ⟨by omega,by omega⟩) ⟨by omega,by omega⟩ 11 2048 rfl (by omega) (by split <;> decide)];rfl
 rw [e1]
 split
 ·rw [orF_add ⟨by omega,by omega⟩ ⟨by omega,by omega⟩ 5 32 rfl (by omega) (by omega)];omega
 ·rw [orF_add ⟨by omega,by omega⟩ ⟨by omega,by omega⟩ 5 32 rfl (by omega) (by omega)];omega
theorem tkB_eq {w:Int} (hw:U32 w):tkB w=if w<2147483648 then w/128%2*2048+w/33554432%64*32+w/256%16*2 else w/128%2*2048+w/33554432%64*32+w/256%16*2+4294963200:=by
 unfold tkB
 rw [part_eq hw 7 7 128 2 (by decide) (by decide) rfl rfl rfl rfl,part_eq hw 30 25 33554432 64 (by decide) (by decide) rfl rfl rfl rfl,part_eq hw 11 8 256 16 (by decide) (by decide) rfl rfl rfl rfl,high_eq hw 12 4096 (by decide) rfl rfl]
 have hw':=hw;unfold U32 at hw'
 rw [show sl (w/128%2) 11=w/128%2*2048 from sl_eq 11 2048 rfl (by omega),show sl (w/33554432%64) 5=w/33554432%64*32 from sl_eq 5 32 rfl (by omega),show sl (w/256%16) 1=w/256%16*2 from sl_eq 1 2 rfl (by omega)]
 have e1:orF (if w<2147483648 then 0 else 4294967296-4096) (w/128%2*2048)=(if w<2147483648 then 0 else 4294963200)+w/128%2*2048:=by
  rw [orF_add (by split <;> exact ⟨by omega,by omega⟩) ⟨by omega,by omega⟩ 12 4096 rfl (by omega) (by split <;> decide)];rfl
 rw [e1]
 split
 all_goals rw [or3 ⟨by omega,by omega⟩ ⟨by omega,by omega⟩ ⟨by omega,by omega⟩ 11 5 2048 32 rfl rfl ⟨by omega,by omega⟩ ⟨by omega,by omega⟩ ⟨by omega,by omega⟩];omega
theorem tkJ_eq {w:Int} (hw:U32 w):tkJ w=if w<2147483648 then w/4096%256*4096+w/1048576%2*2048+w/2097152%1024*2 else w/4096%256*4096+w/1048576%2*2048+w/2097152%1024*2+4293918720:=by
 unfold tkJ
 rw [part_eq hw 19 12 4096 256 (by decide) (by decide) rfl rfl rfl rfl,part_eq hw 20 20 1048576 2 (by decide) (by decide) rfl rfl rfl rfl,part_eq hw 30 21 2097152 1024 (by decide) (by decide) rfl rfl rfl rfl,high_eq hw 20 1048576 (by decide) rfl rfl]
 have hw':=hw;unfold U32 at hw'
 rw [show sl (w/4096%256) 12=w/4096%256*4096 from sl_eq 12 4096 rfl (by omega),show sl (w/1048576%2) 11=w/1048576%2*2048 from sl_eq 11 2048 rfl (by omega),show sl (w/2097152%1024) 1=w/2097152%1024*2 from sl_eq 1 2 rfl (by omega)]
 have e1:orF (if w<2147483648 then 0 else 4294967296-1048576) (w/4096%256*4096)=(if w<2147483648 then 0 else 4293918720)+w/4096%256*4096:=by
  rw [orF_add (by split <;> exact ⟨by omega,by omega⟩) ⟨by omega,by omega⟩ 20 1048576 rfl (by omega) (by split <;> decide)];rfl
 rw [e1]
 split
 all_goals rw [or3 ⟨by omega,by omega⟩ ⟨by omega,by omega⟩ ⟨by omega,by omega⟩ 12 11 4096 2048 rfl rfl ⟨by omega,by omega⟩ ⟨by omega,by omega⟩ ⟨by omega,by omega⟩];omega
theorem tkU_eq {w:Int} (hw:U32 w):tkU w=w-w%4096:=by
 obtain ⟨n,rfl,hn⟩:=hw.nat
 unfold tkU
 have e:((BitVec.ofInt 32 (n:Int)) &&& ~~~ BitVec.ofInt 32 4095).toNat=n &&& 4294963200:=by
  rw [BitVec.toNat_and,bv_nat n hn];rfl
 rw [e,w32_of ⟨by omega,by have:=@and_lt' n 4294963200 (by decide);omega⟩,and_split n _ 12]
 rw [show 4294963200%2 ^ 12=0 from rfl,show 4294963200/2 ^ 12=2 ^ 20-1 from rfl,Nat.and_zero,and_ones]
 omega
theorem mk_U {w:Int} (hw:U32 w):andF w 0x7f=w%128:=by
 obtain ⟨n,rfl,hn⟩:=hw.nat
 rw [show (0x7f:Int)=((0x7f:Nat):Int) from rfl,andF_nat hn (by decide),show 0x7f=2 ^ 7-1 from rfl,and_ones]
 omega
theorem mk_I {w:Int} (hw:U32 w):andF w 0x707f=w%128+w/4096%8*4096:=by
 obtain ⟨n,rfl,hn⟩:=hw.nat
 rw [show (0x707f:Int)=((0x707f:Nat):Int) from rfl,andF_nat hn (by decide),and_split n _ 12,show 0x707f/2 ^ 12=2 ^ 3-1 from rfl,and_ones,and_split (n%2 ^ 12) _ 7,
  show 0x707f%2 ^ 12/2 ^ 7=0 from rfl,Nat.and_zero,show 0x707f%2 ^ 12%2 ^ 7=2 ^ 7-1 from rfl,and_ones]
 omega
theorem mk_hi {n m k:Nat} (hk:k≤32) (h:m%2 ^ k=0x707f) (h15:15≤k):n &&& m=2 ^ k*((n/2 ^ k) &&& (m/2 ^ k))+(n%128+n/4096%8*4096):=by
 rw [and_split n m k,h,and_split (n%2 ^ k) _ 12,show 0x707f/2 ^ 12=2 ^ 3-1 from rfl,and_ones,and_split (n%2 ^ k%2 ^ 12) _ 7,
  show 0x707f%2 ^ 12/2 ^ 7=0 from rfl,Nat.and_zero,show 0x707f%2 ^ 12%2 ^ 7=2 ^ 7-1 from rfl,and_ones]
 have e:(2:Nat) ^ k=2 ^ 15*2 ^ (k-15):=by rw [← Nat.pow_add];congr 1;omega
 have e1:n%2 ^ k%2 ^ 15=n%2 ^ 15:=by rw [e,Nat.mod_mul_right_mod]
 have e2:n%2 ^ k%2 ^ 12%2 ^ 7=n%128:=by omega
 have e3:n%2 ^ k/2 ^ 12%2 ^ 3=n/4096%8:=by omega
 omega
theorem mk_R {w:Int} (hw:U32 w):andF w 0xfe00707f=w%128+w/4096%8*4096+w/33554432%128*33554432:=by
 obtain ⟨n,rfl,hn⟩:=hw.nat
 rw [show (0xfe00707f:Int)=((0xfe00707f:Nat):Int) from rfl,andF_nat hn (by decide),mk_hi (k:=25) (by decide) rfl (by decide),show 0xfe00707f/2 ^ 25=2 ^ 7-1 from rfl,and_ones]
 omega
theorem mk_A {w:Int} (hw:U32 w):andF w 0xf800707f=w%128+w/4096%8*4096+w/134217728%32*134217728:=by
 obtain ⟨n,rfl,hn⟩:=hw.nat
 rw [show (0xf800707f:Int)=((0xf800707f:Nat):Int) from rfl,andF_nat hn (by decide),mk_hi (k:=27) (by decide) rfl (by decide),show 0xf800707f/2 ^ 27=2 ^ 5-1 from rfl,and_ones]
 omega
theorem mk_L {w:Int} (hw:U32 w):andF w 0xf9f0707f=w%128+w/4096%8*4096+w/1048576%32*1048576+w/134217728%32*134217728:=by
 obtain ⟨n,rfl,hn⟩:=hw.nat
 rw [show (0xf9f0707f:Int)=((0xf9f0707f:Nat):Int) from rfl,andF_nat hn (by decide),mk_hi (k:=20) (by decide) rfl (by decide),and_split (n/2 ^ 20) _ 7,show 0xf9f0707f/2 ^ 20/2 ^ 7=2 ^ 5-1 from rfl,and_ones,
  and_split (n/2 ^ 20%2 ^ 7) _ 5,show 0xf9f0707f/2 ^ 20%2 ^ 7/2 ^ 5=0 from rfl,Nat.and_zero,show 0xf9f0707f/2 ^ 20%2 ^ 7%2 ^ 5=2 ^ 5-1 from rfl,and_ones]
 omega
theorem mk_F {w:Int} (hw:U32 w):andF w 0xf00fffff=w%1048576+w/268435456%16*268435456:=by
 obtain ⟨n,rfl,hn⟩:=hw.nat
 rw [show (0xf00fffff:Int)=((0xf00fffff:Nat):Int) from rfl,andF_nat hn (by decide),and_split n _ 28,show 0xf00fffff/2 ^ 28=2 ^ 4-1 from rfl,and_ones,and_split (n%2 ^ 28) _ 20,
  show 0xf00fffff%2 ^ 28/2 ^ 20=0 from rfl,Nat.and_zero,show 0xf00fffff%2 ^ 28%2 ^ 20=2 ^ 20-1 from rfl,and_ones]
 omega
theorem mk_all {w:Int} (hw:U32 w):andF w 0xffffffff=w:=by
 obtain ⟨n,rfl,hn⟩:=hw.nat
 rw [show (0xffffffff:Int)=((0xffffffff:Nat):Int) from rfl,andF_nat hn (by decide),show 0xffffffff=2 ^ 32-1 from rfl,and_ones]
 omega
theorem mk_C {w:Int} (hw:U32 w):andF w 0xfffff07f=w%128+w/4096%1048576*4096:=by
 obtain ⟨n,rfl,hn⟩:=hw.nat
 rw [show (0xfffff07f:Int)=((0xfffff07f:Nat):Int) from rfl,andF_nat hn (by decide),and_split n _ 12,show 0xfffff07f/2 ^ 12=2 ^ 20-1 from rfl,and_ones,and_split (n%2 ^ 12) _ 7,
  show 0xfffff07f%2 ^ 12/2 ^ 7=0 from rfl,Nat.and_zero,show 0xfffff07f%2 ^ 12%2 ^ 7=2 ^ 7-1 from rfl,and_ones]
 omega
theorem pwn:∀ k:_root_.Fin 31,IntKind.u32.wrap (2 ^ k.1*2)=2 ^ (k.1+1):=by decide +kernel
theorem c112n (n:Nat) (hn:n≤31:=by first | decide | omega):Sp Tryz.prog 112 [.int .i64 (n:Int)] [] fun K=>K (.returned (.int .u32 (2 ^ n))) []:=by
 refine Zen Tryz.func112 U U U fun e X Φ hS=>Zsr<|Zy U<|Zns<|Zy U<|Znq ?_
 refine Zsr<|Zy U<|Znb ?_
 refine Zlq (ι:={ i:Nat // i≤n }) (fun i=>[(4,.int .i64 (i.1:Int)),(3,.int .u32 (2 ^ i.1)),(0,.int .i64 n)]) (fun _=>[]) (fun i=>n-i.1) ⟨0,Nat.zero_le _⟩ ⟨U,U,U,trivial⟩ [] U fun i=>Zsq<|Zsr<|Zb 3 U<|Zn<|Zif U (fun h7=>?_) (fun h7=>?_)
 refine Zkn<|Zsq<|Zbl<|Zrg<|Zm U<|Zv (ymul U U U)<|Zy U<|Znl<|Zxn ?_
 refine Znx<|Zrg<|Zm U<|Zv (yadd U U (i64w U (by omega)))<|Zy U<|Znl ?_
 rotate_left
 refine Zex<|Zxt<|Zxt<|Zxx<|Zxs<|Zb 2 U<|Zn ?_
 refine Zrt<|Zre (.t U .n) hS [] 0 ?_ U U U
 rotate_left
 ·refine Zlr ⟨i.1+1,by omega⟩ (by show n-(i.1+1)<n-i.1;omega) ⟨U,iv (pwn ⟨i.1,by omega⟩),U,trivial⟩ [] 0 U U
 ·have hq:i.1=n:=by have:=i.2;omega
  exact ik (by rw [hq])
def bitsF (w:Int) (hi lo:Nat):Int:=w/2 ^ lo%2 ^ (hi+1-lo)
theorem bits_nat (n hi lo:Nat):bitsF (n:Int) hi lo=((n/2 ^ lo%2 ^ (hi+1-lo):Nat):Int):=by unfold bitsF;norm_cast
theorem bits_up {w:Int} (hw:U32 w) {hi j:Nat} (h:j≤hi):bitsF w hi j=2*bitsF w hi (j+1)+w/2 ^ j%2:=by
 obtain ⟨n,rfl,hn⟩:=hw.nat
 have h1:n/2 ^ j%2 ^ (hi+1-j)=2*(n/2 ^ (j+1)%2 ^ (hi+1-(j+1)))+n/2 ^ j%2:=by
  rw [show hi+1-j=hi+1-(j+1)+1 by omega,show 2 ^ (hi+1-(j+1)+1)=2*2 ^ (hi+1-(j+1)) by rw [Nat.pow_succ,Nat.mul_comm],Nat.mod_mul,Nat.div_div_eq_div_mul,← Nat.pow_succ,Nat.add_comm]
 rw [bits_nat,bits_nat,h1]
 norm_cast
theorem bits_u {w:Int} (hw:U32 w) (hi lo:Nat):U32 (bitsF w hi lo):=by
 obtain ⟨n,rfl,hn⟩:=hw.nat
 rw [bits_nat]
 have h1:n/2 ^ lo%2 ^ (hi+1-lo)≤n/2 ^ lo:=Nat.mod_le _ _
 have h2:n/2 ^ lo≤n:=Nat.div_le_self _ _
 exact ⟨by omega,by omega⟩
theorem c110n (w:Int) (hi lo:Nat) (hw:U32 w:=by assumption) (h:hi≤31:=by first | decide | omega) (h2:lo≤hi:=by first | decide | omega):Sp Tryz.prog 110 [.int .u32 w,.int .i64 (hi:Int),.int .i64 (lo:Int)] [] fun K=>K (.returned (.int .u32 (bitsF w hi lo))) []:=by
 refine Zen Tryz.func110 U U U fun e X Φ hS=>Zsr<|Zy U<|Zns<|Zy U<|Znq ?_
 refine Zsr<|Zb 2 U<|Znb ?_
 refine Zlq (ι:={ i:Nat // lo≤i∧i≤hi+1 }) (fun i=>[(8,.int .i64 ((i.1:Int)-1)),(7,.int .u32 (bitsF w hi i.1)),(0,.int .u32 w),(2,.int .i64 (lo:Int))]) (fun _=>[]) (fun i=>i.1) ⟨hi+1,by omega,by omega⟩ ⟨iv (by show (hi:Int)=((hi+1:Nat):Int)-1;omega),iv (by show 0=bitsF w hi (hi+1);unfold bitsF;rw [Nat.sub_self,Int.pow_zero,Int.emod_one]),U,U,trivial⟩ [] U fun i=>Zsq<|Zsr<|Zb 3 U<|Zn<|Zif U (fun h12=>?_) (fun h12=>?_)
 refine Zkn<|Zsq<|Zbl<|Zrg<|Zm U<|Zv (ymul U U U)<|Zb 2 U ?_
 rotate_left
 refine Zex<|Zxt<|Zxt<|Zxx<|Zxs<|Zb 2 U<|Zn ?_
 refine Zrt<|Zre (.t U .n) hS [] 0 ?_ U U U
 rotate_left
 ·obtain ⟨j,hj⟩:∃ j,i.1=j+1:=⟨i.1-1,by omega⟩
  have hjh:j≤hi:=by have:=i.2;omega
  have e1:(i.1:Int)-1=(j:Nat):=by omega
  have hne:(2:Int) ^ j≠0:=by have:=pow_b j (by omega);omega
  have hb:=bits_up hw hjh
  have hu:=bits_u hw hi j
  have hq:(IntKind.u32.wrap (w.tdiv (2 ^ j))).tmod 2=w/2 ^ j%2:=by
   have h0:0≤w/2 ^ j:=Int.ediv_nonneg hw.1 (by have:=pow_b j (by omega);omega)
   have h1:w/2 ^ j≤w:=Int.ediv_le_self _ hw.1
   rw [td_u hw,show IntKind.u32.wrap (w/2 ^ j)=w/2 ^ j from w32_of ⟨h0,by unfold U32 at hw;omega⟩,Int.tmod_eq_emod_of_nonneg h0]
  rw [e1,hj]
  refine Zk (c112n j (by omega)) [] U U<|Zq<|Zv (yquo U U (by assumption) U)<|Zv (yrem U U (by decide) U)<|Zv (yadd U U U)<|Zy U<|Znl<|Zxn<|Znx<|Zrg ?_
  refine Zm U<|Zv (ysub U U (i64w U (by omega)))<|Zy U<|Znl ?_
  refine Zlr ⟨j,by omega⟩ (by show j<i.1;omega) ⟨U,iv ?_,U,U,trivial⟩ [] 0 U U
  rw [hq,hb]
  rw [hb] at hu
  unfold U32 at hu
  rw [u32m,u32m]
  omega
 ·have hq:i.1=lo:=by have:=i.2;omega
  exact ik (by rw [hq])
theorem c112 (n:Int) (h0:0≤n:=by decide) (h:n≤31:=by decide):Sp Tryz.prog 112 [.int .i64 n] [] fun K=>K (.returned (.int .u32 (2 ^ n.toNat))) []:=by
 have:=c112n n.toNat (by omega)
 rw [Int.toNat_of_nonneg h0] at this
 exact this
theorem c110 (w hi lo:Int) (hw:U32 w:=by assumption) (h0:0≤lo:=by decide) (h1:lo≤hi:=by decide) (h2:hi≤31:=by decide):Sp Tryz.prog 110 [.int .u32 w,.int .i64 hi,.int .i64 lo] [] fun K=>K (.returned (.int .u32 (bitsF w hi.toNat lo.toNat))) []:=by
 have:=c110n w hi.toNat lo.toNat hw (by omega) (by omega)
 rw [Int.toNat_of_nonneg h0,Int.toNat_of_nonneg (Int.le_trans h0 h1)] at this
 exact this
@[irreducible] def formF (op:Int):Int:=
 if op=1∨op=2 then 117 else if op=3 then 106 else if op=4∨(11≤op∧op≤15) then 108 else if 5≤op∧op≤10 then 98 else if 16≤op∧op≤18 then 115
 else if 19≤op∧op≤24 then 105 else if 25≤op∧op≤27 then 104 else if (28≤op∧op≤37)∨(40≤op∧op≤47) then 114 else if op=38 then 102 else if op=39 then 101
 else if op=48 then 113 else if 49≤op∧op≤58 then 97 else if op=59 then 99 else 0
theorem c109 (op:Int):Sp Tryz.prog 109 [.int .i64 op] [] fun K=>K (.returned (.int .u8 (formF op))) []:=by
 refine Zen Tryz.func109 U U U fun e X Φ hS=>Zsr<|Zy U<|Znq<|Zbl<|Zsr<|Zb 2 U ?_
 refine Zm U<|Zgs U U (fun h6=>?_) (fun h6=>?_)
 refine Zu' U U (dT h6) U<|Zu' U U (dT h6) U<|Zv (ypt' U (dT h6) U)<|Zy U<|Zn<|Zct U<|Zsr<|Zy U<|Znl ?_
 refine Zxr<|Zr2<|Zr1<|Zre (.t U .n) hS [] 0 ?_ U U U
 rotate_left
 refine Zg' U U (dF h6)<|Zm U<|Zg' U U (dF h6)<|Zv (yeq U U)<|Zv (ypf' U (dF h6) U)<|Zy U<|Zn<|Zif U (fun h3=>?_) (fun h3=>?_)
 refine Zsr<|Zy U<|Znr<|Zr2<|Zr1<|Zre (.t U .n) hS [] 0 ?_ U U U
 rotate_left
 refine Zsr<|Zb 3 U<|Zn<|Zif U (fun h10=>?_) (fun h10=>?_)
 refine Zsr<|Zy U<|Znr<|Zr2<|Zr1<|Zre (.t U .n) hS [] 0 ?_ U U U
 rotate_left
 refine Zsr<|Zb 3 U<|Zgs U U (fun h16=>?_) (fun h16=>?_)
 refine Zu' U U (dT h16) U<|Zu' U U (dT h16) U<|Zu' U U (dT h16) U<|Zb 2 U<|Zu' U U (dT h16) U<|Zv (ypt' U (dT h16) U)<|Zy U<|Zn ?_
 refine Zct U<|Zsr<|Zy U<|Znr<|Zr2<|Zr1<|Zre (.t U .n) hS [] 0 ?_ U U U
 rotate_left
 refine Zg' U U (dF h16)<|Zm U<|Zg' U U (dF h16)<|Zv (yge U U)<|Zg' U U (dF h16)<|Zm U<|Zgs U U (fun h19=>?_) (fun h19=>?_)
 refine Zg' U U (dT h19)<|Zm U<|Zg' U U (dT h19)<|Zv (yle U U)<|Zg' U U (dF h16)<|Zv (ypt' U (dT h19) U)<|Zv (ypf' U (dF h16) U)<|Zy U<|Zn ?_
 refine Zif U (fun h13=>?_) (fun h13=>?_)
 refine Zsr<|Zy U<|Znr<|Zr2<|Zr1<|Zre (.t U .n) hS [] 0 ?_ U U U
 rotate_left
 refine Zsr<|Zb 3 U<|Zg' U U (dT (by omega))<|Zm U<|Zg' U U (dT (by omega))<|Zv (yle U U)<|Zv (ypt' U (dT (by omega)) U)<|Zy U ?_
 refine Zn<|Zcf' U (dF (by omega))<|Zsr<|Zb 3 U<|Zg' U U (dT (by omega))<|Zm U<|Zg' U U (dT (by omega)) ?_
 refine Zv (yle U U)<|Zv (ypt' U (dT (by omega)) U)<|Zy U<|Zn<|Zif U (fun h31=>?_) (fun h31=>?_)
 refine Zsr<|Zy U<|Znr<|Zr2<|Zr1<|Zre (.t U .n) hS [] 0 ?_ U U U
 rotate_left
 refine Zsr<|Zb 3 U<|Zg' U U (dT (by omega))<|Zm U<|Zg' U U (dT (by omega))<|Zv (yle U U)<|Zv (ypt' U (dT (by omega)) U)<|Zy U ?_
 refine Zn<|Zif U (fun h38=>?_) (fun h38=>?_)
 refine Zsr<|Zy U<|Znr<|Zr2<|Zr1<|Zre (.t U .n) hS [] 0 ?_ U U U
 rotate_left
 refine Zsr<|Zb 3 U<|Zg' U U (dT (by omega))<|Zm U<|Zg' U U (dT (by omega))<|Zv (yle U U)<|Zv (ypt' U (dT (by omega)) U)<|Zy U ?_
 refine Zn<|Zif U (fun h45=>?_) (fun h45=>?_)
 refine Zsr<|Zy U<|Znr<|Zr2<|Zr1<|Zre (.t U .n) hS [] 0 ?_ U U U
 rotate_left
 refine Zsr<|Zb 3 U<|Zg' U U (dT (by omega))<|Zm U<|Zg' U U (dT (by omega))<|Zv (yle U U)<|Zv (ypt' U (dT (by omega)) U)<|Zm U ?_
 refine Zgs U U (fun h59=>?_) (fun h59=>?_)
 refine Zu' U U (dT h59) U<|Zu' U U (dT h59) U<|Zu' U U (dT h59) U<|Zb 2 U<|Zu' U U (dT h59) U<|Zv (ypt' U (dT h59) U)<|Zy U<|Zn ?_
 refine Zct U<|Zsr<|Zy U<|Znr<|Zr2<|Zr1<|Zre (.t U .n) hS [] 0 ?_ U U U
 rotate_left
 refine Zg' U U (dF h59)<|Zm U<|Zg' U U (dF h59)<|Zv (yge U U)<|Zg' U U (dF h59)<|Zm U<|Zgs U U (fun h62=>?_) (fun h62=>?_)
 refine Zg' U U (dT h62)<|Zm U<|Zg' U U (dT h62)<|Zv (yle U U)<|Zg' U U (dF h59)<|Zv (ypt' U (dT h62) U)<|Zv (ypf' U (dF h59) U)<|Zy U<|Zn ?_
 refine Zif U (fun h52=>?_) (fun h52=>?_)
 refine Zsr<|Zy U<|Znr<|Zr2<|Zr1<|Zre (.t U .n) hS [] 0 ?_ U U U
 rotate_left
 refine Zsr<|Zb 3 U<|Zn<|Zcf' U (dF (by omega))<|Zsr<|Zb 2 U ?_
 refine Zy U<|Zn<|Zcf' U (dF (by omega))<|Zsr<|Zb 3 U<|Zn ?_
 refine Zif U (fun h73=>?_) (fun h73=>?_)
 refine Zsr<|Zy U<|Znr<|Zr2<|Zr1<|Zre (.t U .n) hS [] 0 ?_ U U U
 rotate_left
 refine Zsr<|Zb 3 U<|Zg' U U (dT (by omega))<|Zm U<|Zg' U U (dT (by omega))<|Zv (yle U U)<|Zv (ypt' U (dT (by omega)) U)<|Zy U ?_
 refine Zn<|Zif U (fun h76=>?_) (fun h76=>?_)
 refine Zsr<|Zy U<|Znr<|Zr2<|Zr1<|Zre (.t U .n) hS [] 0 ?_ U U U
 rotate_left
 refine Zsr<|Zb 3 U<|Zn<|Zif U (fun h83=>?_) (fun h83=>?_)
 refine Zsr<|Zy U<|Znr<|Zr2<|Zr1<|Zre (.t U .n) hS [] 0 ?_ U U U
 rotate_left
 refine Zsk<|Zxn<|Zxs<|Zy U<|Znr<|Zre (.t U .n) hS [] 0 ?_ U U U
 rotate_left
 refine Zu' U U (dF h62) U<|Zu' U U (dF h62) U<|Zg' U U (dF h59)<|Zv (ypf' U (dF h62) U)<|Zv (ypf' U (dF h59) U)<|Zy U<|Zn<|Zcf U<|Zsr ?_
 refine Zb 3 U<|Zn<|Zif U (fun h67=>?_) (fun h67=>?_)
 refine Zsr<|Zy U<|Znr<|Zr2<|Zr1<|Zre (.t U .n) hS [] 0 ?_ U U U
 rotate_left
 refine Zsr<|Zb 3 U<|Zn<|Zct' U (dT (by omega))<|Zsr<|Zy U<|Znl ?_
 refine Zxr<|Zr2<|Zr1<|Zre (.t U .n) hS [] 0 ?_ U U U
 rotate_left
 refine Zu' U U (dF h19) U<|Zu' U U (dF h19) U<|Zg' U U (dF h16)<|Zv (ypf' U (dF h19) U)<|Zv (ypf' U (dF h16) U)<|Zy U<|Zn<|Zcf U<|Zsr ?_
 refine Zb 3 U<|Zgs U U (fun h27=>?_) (fun h27=>?_)
 refine Zg' U U (dT h27)<|Zm U<|Zg' U U (dT h27)<|Zv (yle U U)<|Zv (ypt' U (dT h27) U)<|Zy U<|Zn<|Zct' U (dT (by omega))<|Zsr ?_
 refine Zy U<|Znr<|Zr2<|Zr1<|Zre (.t U .n) hS [] 0 ?_ U U U
 rotate_left
 refine Zu' U U (dF h27) U<|Zu' U U (dF h27) U<|Zv (ypf' U (dF h27) U)<|Zy U<|Zn<|Zcf U<|Zsr<|Zb 2 U ?_
 refine Zm U<|Zu' U U (dF (by omega)) U<|Zu' U U (dF (by omega)) U<|Zv (ypf' U (dF (by omega)) U)<|Zy U<|Zn<|Zcf U<|Zsr<|Zm U ?_
 refine Zb 2 U<|Zu' U U (dF (by omega)) U<|Zu' U U (dF (by omega)) U<|Zv (ypf' U (dF (by omega)) U)<|Zy U<|Zn<|Zcf U<|Zsr ?_
 refine Zb 3 U<|Zu' U U (dF (by omega)) U<|Zu' U U (dF (by omega)) U<|Zv (ypf' U (dF (by omega)) U)<|Zy U<|Zn<|Zcf U ?_
 refine Zsr<|Zb 3 U<|Zu' U U (dF (by omega)) U<|Zu' U U (dF (by omega)) U<|Zv (ypf' U (dF (by omega)) U)<|Zb 2 U ?_
 refine Zb 2 U<|Zu' U U (dF (by omega)) U<|Zu' U U (dF (by omega)) U<|Zg U U<|Zv (ypf' U (dF (by omega)) U)<|Zb 2 U ?_
 refine Zn<|Zcf U<|Zsr<|Zb 3 U<|Zn<|Zcf' U (dF (by omega)) ?_
 refine Zsr<|Zb 3 U<|Zn<|Zcf' U (dF (by omega))<|Zsr<|Zb 2 U ?_
 refine Zy U<|Zn<|Zcf' U (dF (by omega))<|Zsr<|Zb 3 U<|Zu' U U (dF (by omega)) U<|Zu' U U (dF (by omega)) U ?_
 refine Zv (ypf' U (dF (by omega)) U)<|Zy U<|Zn<|Zcf U<|Zsr<|Zb 3 U<|Znl ?_
 refine Znx<|Zcf' U (dF (by omega))<|Zsk<|Zxn<|Zxs<|Zy U<|Znr ?_
 refine Zre (.t U .n) hS [] 0 ?_ U U U
 rotate_left
 all_goals refine ik ?_
 all_goals unfold formF
 all_goals repeat (first | rw [if_neg (by omega)] | rw [if_pos (by omega)])
@[irreducible] def opcF (op:Int):Int:=
 if op=1 then 55 else if op=2 then 23 else if op=3 then 111 else if op=4 then 103 else if op≤10 then 99 else if op≤15 then 3 else if op≤18 then 35 else if op≤27 then 19
 else if op≤37∨(40≤op∧op≤47) then 51 else if op=38 then 15 else if op=39∨op=59 then 115 else 47
theorem c152 (op:Int):Sp Tryz.prog 152 [.int .i64 op] [] fun K=>K (.returned (.int .u32 (opcF op))) []:=by
 refine Zen Tryz.func152 U U U fun e X Φ hS=>Zsr<|Zy U<|Znq<|Zbl<|Zsr<|Zb 2 U ?_
 refine Zy U<|Zn<|Zif U (fun h3=>?_) (fun h3=>?_)
 refine Zsr<|Zy U<|Znr<|Zr2<|Zr1<|Zre (.t U .n) hS [] 0 ?_ U U U
 rotate_left
 refine Zsr<|Zb 3 U<|Zn<|Zif U (fun h6=>?_) (fun h6=>?_)
 refine Zsr<|Zy U<|Znr<|Zr2<|Zr1<|Zre (.t U .n) hS [] 0 ?_ U U U
 rotate_left
 refine Zsr<|Zb 3 U<|Zn<|Zif U (fun h9=>?_) (fun h9=>?_)
 refine Zsr<|Zy U<|Znr<|Zr2<|Zr1<|Zre (.t U .n) hS [] 0 ?_ U U U
 rotate_left
 refine Zsr<|Zb 3 U<|Zn<|Zif U (fun h12=>?_) (fun h12=>?_)
 refine Zsr<|Zy U<|Znr<|Zr2<|Zr1<|Zre (.t U .n) hS [] 0 ?_ U U U
 rotate_left
 refine Zsr<|Zb 3 U<|Zn<|Zif U (fun h15=>?_) (fun h15=>?_)
 refine Zsr<|Zy U<|Znr<|Zr2<|Zr1<|Zre (.t U .n) hS [] 0 ?_ U U U
 rotate_left
 refine Zsr<|Zb 3 U<|Zn<|Zif U (fun h18=>?_) (fun h18=>?_)
 refine Zsr<|Zy U<|Znr<|Zr2<|Zr1<|Zre (.t U .n) hS [] 0 ?_ U U U
 rotate_left
 refine Zsr<|Zb 3 U<|Zn<|Zif U (fun h21=>?_) (fun h21=>?_)
 refine Zsr<|Zy U<|Znr<|Zr2<|Zr1<|Zre (.t U .n) hS [] 0 ?_ U U U
 rotate_left
 refine Zsr<|Zb 3 U<|Zn<|Zif U (fun h24=>?_) (fun h24=>?_)
 refine Zsr<|Zy U<|Znr<|Zr2<|Zr1<|Zre (.t U .n) hS [] 0 ?_ U U U
 rotate_left
 refine Zsr<|Zb 3 U<|Zgs U U (fun h30=>?_) (fun h30=>?_)
 refine Zu' U U (dT h30) U<|Zu' U U (dT h30) U<|Zu' U U (dT h30) U<|Zb 2 U<|Zu' U U (dT h30) U<|Zv (ypt' U (dT h30) U)<|Zy U<|Zn ?_
 refine Zct U<|Zsr<|Zy U<|Znr<|Zr2<|Zr1<|Zre (.t U .n) hS [] 0 ?_ U U U
 rotate_left
 refine Zg' U U (dF h30)<|Zm U<|Zg' U U (dF h30)<|Zv (yge U U)<|Zg' U U (dF h30)<|Zm U<|Zgs U U (fun h33=>?_) (fun h33=>?_)
 refine Zg' U U (dT h33)<|Zm U<|Zg' U U (dT h33)<|Zv (yle U U)<|Zg' U U (dF h30)<|Zv (ypt' U (dT h33) U)<|Zv (ypf' U (dF h30) U)<|Zy U<|Zn ?_
 refine Zif U (fun h27=>?_) (fun h27=>?_)
 refine Zsr<|Zy U<|Znr<|Zr2<|Zr1<|Zre (.t U .n) hS [] 0 ?_ U U U
 rotate_left
 refine Zsr<|Zb 3 U<|Zn<|Zcf' U (dF (by omega))<|Zsr<|Zb 2 U ?_
 refine Zm U<|Zg' U U (dF (by omega))<|Zm U<|Zg' U U (dF (by omega))<|Zv (yeq U U)<|Zv (ypf' U (dF (by omega)) U)<|Zy U<|Zn<|Zif U (fun h41=>?_) (fun h41=>?_)
 refine Zsr<|Zy U<|Znr<|Zr2<|Zr1<|Zre (.t U .n) hS [] 0 ?_ U U U
 rotate_left
 refine Zsk<|Zxn<|Zxs<|Zy U<|Znr<|Zre (.t U .n) hS [] 0 ?_ U U U
 rotate_left
 refine Zu' U U (dF h33) U<|Zu' U U (dF h33) U<|Zg' U U (dF h30)<|Zv (ypf' U (dF h33) U)<|Zv (ypf' U (dF h30) U)<|Zy U<|Zn<|Zcf U<|Zsr ?_
 refine Zb 3 U<|Zn<|Zif U (fun h38=>?_) (fun h38=>?_)
 refine Zsr<|Zy U<|Znr<|Zr2<|Zr1<|Zre (.t U .n) hS [] 0 ?_ U U U
 rotate_left
 refine Zsr<|Zb 3 U<|Zu' U U (dT (by omega)) U<|Zu' U U (dT (by omega)) U<|Zv (ypt' U (dT (by omega)) U)<|Zy U<|Zn ?_
 refine Zct U<|Zsr<|Zy U<|Znr<|Zr2<|Zr1<|Zre (.t U .n) hS [] 0 ?_ U U U
 rotate_left
 all_goals refine ik ?_
 all_goals unfold opcF
 all_goals repeat (first | rw [if_neg (by omega)] | rw [if_pos (by omega)])
def f3L:List Int:=[0,0,0,0,0,0,1,4,5,6,7,0,1,2,4,5,0,1,2,0,2,3,4,6,7,1,5,5,0,0,1,2,3,4,5,5,6,7,0,0,0,1,2,3,4,5,6,7,2,2,2,2,2,2,2,2,2,2,2,2]
def f7L:List Int:=[2,3,1,0,4,12,8,16,20,24,28]
theorem nth_w {us:List Int} {k:Nat} (h:k<us.length):nth (wds us) k=some (.int .u32 (us.getD k 0)):=by
 rw [nth_eq]
 unfold wds
 rw [List.getElem?_map,List.getElem?_eq_getElem h]
 simp [List.getD,h]
theorem c153n (k:Nat) (h:k<60:=by omega):Sp Tryz.prog 153 [.int .i64 (k:Int)] [] fun K=>K (.returned (.int .u32 (f3L.getD k 0))) []:=by
 have hw:=@nth_w f3L k h
 refine Zen Tryz.func153 U U U fun e X Φ hS=>Zsr<|Zy U<|Zns ?_
 refine Ze (ebc f3L U (by decide) (by decide) (by kernel_rfl)) fun b=>Zw<|Zy U<|Zns<|Zb 2 U ?_
 refine Zv (yeb (s:=1) (j:=k) k Tryz.underlying62 U U (by omega) (by omega)) ?_
 refine Zv (yd 0 U U hw)<|Zy U<|Znr<|Zre (.t U .n) hS [] 1 U U U U
def sgnF (n:Int) (many:Nat):Int:=if 2 ^ (many-1)≤n then w32 (n-2 ^ (many-1)*2) else n
theorem c111n (n:Int) (many:Nat) (hn:U32 n:=by assumption) (h:1≤many∧many≤31:=by decide):Sp Tryz.prog 111 [.int .u32 n,.int .i64 (many:Int)] [] fun K=>K (.returned (.int .u32 (sgnF n many))) []:=by
 have hp:=pow_b (many-1) (by omega)
 have h1:(many:Int)-1=((many-1:Nat):Int):=by omega
 refine Zen Tryz.func111 U U U fun e X Φ hS=>Zsr<|Zy U<|Znqs<|Zb 2 U<|Zv (ysub U U (i64w U (by omega))) ?_
 rw [h1]
 refine Zk (c112n (many-1) (by omega)) [] U U<|Zq<|Zv (yge U U)<|Zn<|Zif U (fun h9=>?_) (fun h9=>?_)
 refine Zsr<|Zm U<|Zv (ycv Tryz.underlying40 Tryz.underlying2 U U)<|Zm U<|Zv (ysub U U (i64w U (by omega))) ?_
 rotate_left
 refine Zks<|Zb 2 U<|Znr<|Zre (.t U .n) hS [] 0 ?_ U U U
 rotate_left
 ·rw [h1]
  refine Zk (c112n (many-1) (by omega)) [] U U<|Zq<|Zv (ycv Tryz.underlying40 Tryz.underlying2 U (i64w U (by omega)))<|Zv (ymul U U (i64w U (by omega)))<|Zv (ysub U U U) ?_
  have hn':=hn
  unfold U32 at hn'
  rw [i64u hn,show IntKind.i64.wrap (n-2 ^ (many-1)*2)=n-2 ^ (many-1)*2 from i64i ⟨by omega,by omega⟩]
  refine Zk (c135 _ (by omega)) [] U U<|Zq<|Zy U<|Znr<|Zr1<|Zre (.t U .n) hS [] 0 ?_ U U U
  exact ik (if_pos h9).symm
 ·exact ik (if_neg h9).symm
def f7F (k:Nat):Int:=if k=27∨k=29∨k=35 then 32 else if 40≤k∧k≤47 then 1 else if 48≤k∧k≤58 then 4*f7L.getD (k-48) 0 else 0
theorem f7_b:∀ j:_root_.Fin 11,IntKind.u32.wrap (4*f7L.getD j.1 0)=4*f7L.getD j.1 0:=by decide +kernel
theorem c154n (k:Nat) (h:k<60:=by omega):Sp Tryz.prog 154 [.int .i64 (k:Int)] [] fun K=>K (.returned (.int .u32 (f7F k))) []:=by
 refine Zen Tryz.func154 U U U fun e X Φ hS=>Zsr<|Zy U<|Znq<|Zbl<|Zsr<|Zb 2 U ?_
 refine Zm U<|Zgs U U (fun h7=>?_) (fun h7=>?_)
 refine Zu' U U (dT h7) U<|Zu' U U (dT h7) U<|Zv (ypt' U (dT h7) U)<|Zb 5 U<|Zn ?_
 refine Zct U<|Zsr<|Zy U<|Znr<|Zr2<|Zr1<|Zre (.t U .n) hS [] 0 ?_ U U U
 rotate_left
 refine Zg' U U (dF h7)<|Zm U<|Zg' U U (dF h7)<|Zv (yeq U U)<|Zv (ypf' U (dF h7) U)<|Zm U<|Zgs U U (fun h11=>?_) (fun h11=>?_)
 refine Zu' U U (dT h11) U<|Zu' U U (dT h11) U<|Zv (ypt' U (dT h11) U)<|Zy U<|Zn<|Zct U<|Zsr<|Zy U<|Znl ?_
 refine Zxr<|Zr2<|Zr1<|Zre (.t U .n) hS [] 0 ?_ U U U
 rotate_left
 refine Zg' U U (dF h11)<|Zm U<|Zg' U U (dF h11)<|Zv (yeq U U)<|Zv (ypf' U (dF h11) U)<|Zy U<|Zn<|Zif U (fun h4=>?_) (fun h4=>?_)
 refine Zsr<|Zy U<|Znr<|Zr2<|Zr1<|Zre (.t U .n) hS [] 0 ?_ U U U
 rotate_left
 refine Zsr<|Zb 3 U<|Zgs U U (fun h18=>?_) (fun h18=>?_)
 refine Zg' U U (dT h18)<|Zm U<|Zg' U U (dT h18)<|Zv (yle U U)<|Zv (ypt' U (dT h18) U)<|Zy U<|Zn<|Zif U (fun h15=>?_) (fun h15=>?_)
 refine Zsr<|Zy U<|Znr<|Zr2<|Zr1<|Zre (.t U .n) hS [] 0 ?_ U U U
 rotate_left
 refine Zsr<|Zb 3 U<|Zg' U U (dT (by omega))<|Zm U<|Zg' U U (dT (by omega))<|Zv (yle U U)<|Zv (ypt' U (dT (by omega)) U)<|Zy U ?_
 refine Zn<|Zif U (fun h22=>?_) (fun h22=>?_)
 refine Zsr ?_
 rotate_left
 refine Zsk<|Zxn<|Zxs<|Zy U<|Znr<|Zre (.t U .n) hS [] 0 ?_ U U U
 rotate_left
 refine Zu' U U (dF h18) U<|Zu' U U (dF h18) U<|Zv (ypf' U (dF h18) U)<|Zy U<|Zn<|Zcf U<|Zsr<|Zb 2 U ?_
 refine Zm U<|Zu' U U (dF (by omega)) U<|Zu' U U (dF (by omega)) U<|Zv (ypf' U (dF (by omega)) U)<|Zy U<|Zn<|Zcf U<|Zsk<|Zxn ?_
 refine Zxs<|Zy U<|Znr<|Zre (.t U .n) hS [] 0 ?_ U U U
 rotate_left
 all_goals try (refine ik ?_;unfold f7F;repeat (first | rw [if_neg (by omega)] | rw [if_pos (by omega)]))
 have e1:(k:Int)-48=((k-48:Nat):Int):=by omega
 have hk:k-48<f7L.length:=by show k-48<11;omega
 have hw:=@nth_w f7L (k-48) hk
 have hb:=f7_b ⟨k-48,hk⟩
 refine Ze (ebc f7L U (by decide) (by decide) (by kernel_rfl)) fun b=>Zw<|Zy U<|Zns<|Zb 2 U<|Zv (ysub U U (i64w U (by omega))) ?_
 rw [e1]
 refine Zv (yeb (s:=1) (j:=k-48) (k-48) Tryz.underlying62 U U (by omega) (by omega)) ?_
 refine Zv (yd 0 U U hw)<|Zv (ymul U U U)<|Zy U<|Znr<|Zr2<|Zr1<|Zre (.t U .n) hS [] 1 ?_ U U U
 refine ik ?_
 rw [hb]
 unfold f7F
 rw [if_neg (by omega),if_neg (by omega),if_pos (by omega)]
theorem c111 (n many:Int) (hn:U32 n:=by first | assumption | exact w32_u _ | exact bits_u (by assumption) _ _) (h:1≤many∧many≤31:=by decide):Sp Tryz.prog 111 [.int .u32 n,.int .i64 many] [] fun K=>K (.returned (.int .u32 (sgnF n many.toNat))) []:=by
 have:=c111n n many.toNat hn (by omega)
 rw [Int.toNat_of_nonneg (by omega)] at this
 exact this
theorem c153 (op:Int) (h:0≤op∧op<60:=by assumption):Sp Tryz.prog 153 [.int .i64 op] [] fun K=>K (.returned (.int .u32 (f3L.getD op.toNat 0))) []:=by
 have:=c153n op.toNat (by omega)
 rw [Int.toNat_of_nonneg h.1] at this
 exact this
theorem c154 (op:Int) (h:0≤op∧op<60:=by assumption):Sp Tryz.prog 154 [.int .i64 op] [] fun K=>K (.returned (.int .u32 (f7F op.toNat))) []:=by
 have:=c154n op.toNat (by omega)
 rw [Int.toNat_of_nonneg h.1] at this
 exact this
def badF (f:Int) (i:Ins):Bool:=
 decide (f=0) || decide ((i.rd:Int)<0) || decide (31<(i.rd:Int)) || decide ((i.rs1:Int)<0) || decide (31<(i.rs1:Int)) || decide ((i.rs2:Int)<0) || decide (31<(i.rs2:Int)) ||
 !(decide (f≠98) && decide (f≠115) && decide (f≠102) && decide (f≠101)) && decide ((i.rd:Int)≠0) ||
 !(decide (f≠117) && decide (f≠106) && decide (f≠102) && decide (f≠101) && decide (f≠99)) && decide ((i.rs1:Int)≠0) ||
 !(decide (f=98) || decide (f=115) || decide (f=114) || decide (f=97)) && decide ((i.rs2:Int)≠0) ||
 decide (f≠97) && decide (f≠113) && (i.aq || i.rl)
def immOk (f:Int) (i:Ins):Bool:=
 if f=117 then decide (i.imm.tmod 4096=0) else if f=106 then decide ((sgn i.imm).tmod 2=0) && decide (-1048576≤sgn i.imm) && decide (sgn i.imm≤1048574)
 else if f=98 then decide ((sgn i.imm).tmod 2=0) && decide (-4096≤sgn i.imm) && decide (sgn i.imm≤4094)
 else if f=105∨f=108∨f=115 then decide (-2048≤sgn i.imm) && decide (sgn i.imm≤2047)
 else if f=104 then decide (0≤sgn i.imm) && decide (sgn i.imm≤31) else if f=102 then decide (0≤sgn i.imm) && decide (sgn i.imm≤255) else decide (i.imm=0)
def mayF (i:Ins):Bool:=bif badF (formF i.op) i then false else immOk (formF i.op) i
theorem may_t {i:Ins} (h:badF (formF i.op) i=true):false=mayF i:=by unfold mayF;rw [h];rfl
theorem may_f {i:Ins} (h:badF (formF i.op) i=false):mayF i=immOk (formF i.op) i:=by unfold mayF;rw [h];rfl
theorem c113 (i:Ins) (hi:U32 i.imm:=by assumption):Sp Tryz.prog 113 [.agg (insE.arr i)] [] fun K=>K (.returned (.bool (mayF i))) []:=by
  refine Zen Tryz.func113 U U U fun e X Φ hS=>Zsr<|Ze (ebxE U) fun b1=>Zw<|Zy U<|Zns<|Za 3 [0,0] U U ?_
  refine Zns<|Zm U<|Zk (c109 ..) [] U U<|Zq<|Zy U<|Zns ?_
  refine Zb 3 U<|Zc 12 [] U U<|Zns<|Zb 3 U ?_
  refine Zc 16 [] U U<|Zns<|Zb 3 U<|Zc 12 [] U U<|Zn ?_
  refine Zsq<|Zsr<|Zb 3 U<|Zc 72 [1,0,1,0,2,0,2,0,3,0,3,0,1,0,2,0,3,0,5,0,6,0] U U<|Zn<|Zib U (fun h133=>?_) (fun h133=>?_)
  refine Zsr<|Zy U<|Znr<|Zr1<|Zre (.t U .n) hS [] 1 ?_ U U U
  rotate_left
  refine Zks<|Za 2 [4,0] U U<|Zk (c134 ..) [] U U<|Zq<|Zy U<|Zn ?_
  refine Zsq<|Zsr<|Zm U<|Znb<|Zsr<|Zb 2 U<|Znl ?_
  refine Znx<|Zif U (fun h138=>?_) (fun h138=>?_)
  refine Zsr<|Za 2 [4,0] U U<|Zv (yrem U U (by decide) U)<|Zb 2 U<|Znr<|Zr2 ?_
  refine Zr1<|Zre (.t U .n) hS [] 1 ?_ U U U
  rotate_left
  refine Zsr<|Zb 2 U<|Zn<|Zif U (fun h144=>?_) (fun h144=>?_)
  refine Zsr<|Zm U<|Zv (yrem U U (by decide) U)<|Zb 2 U<|Zc 8 [] U U<|Znr<|Zr2 ?_
  refine Zr1<|Zre (.t U .n) hS [] 1 ?_ U U U
  rotate_left
  refine Zsr<|Zb 2 U<|Zn<|Zif U (fun h157=>?_) (fun h157=>?_)
  refine Zsr<|Zm U<|Zv (yrem U U (by decide) U)<|Zb 2 U<|Zc 8 [] U U<|Znr<|Zr2 ?_
  refine Zr1<|Zre (.t U .n) hS [] 1 ?_ U U U
  rotate_left
  refine Zsq<|Zsr<|Zb 2 U<|Zn<|Zif U (fun h170=>?_) (fun h170=>?_)
  refine Zkn<|Zct' U (dT h170)<|Zsr<|Zb 3 U<|Zc 4 [] U U<|Zn ?_
  refine Zrt<|Zr2<|Zr1<|Zre (.t U .n) hS [] 1 ?_ U U U
  rotate_left
  refine Zsr<|Zb 2 U<|Zn<|Zif U (fun h170=>?_) (fun h170=>?_)
  refine Zkn<|Zct' U (dT h170)<|Zsr<|Zb 3 U<|Zc 4 [] U U<|Zn ?_
  refine Zrt<|Zr2<|Zr1<|Zre (.t U .n) hS [] 1 ?_ U U U
  rotate_left
  refine Zrg<|Zb 2 U<|Zn<|Zif U (fun h170=>?_) (fun h170=>?_)
  refine Zsr<|Zb 3 U<|Zc 4 [] U U<|Znr<|Zr2<|Zr1 ?_
  refine Zre (.t U .n) hS [] 1 ?_ U U U
  rotate_left
  refine Zsr<|Zb 2 U<|Zn<|Zif U (fun h180=>?_) (fun h180=>?_)
  refine Zsr<|Zb 3 U<|Zc 4 [] U U<|Znr<|Zr2<|Zr1 ?_
  refine Zre (.t U .n) hS [] 1 ?_ U U U
  rotate_left
  refine Zsr<|Zb 2 U<|Zn<|Zif U (fun h188=>?_) (fun h188=>?_)
  refine Zsr<|Zb 3 U<|Zc 4 [] U U<|Znr<|Zr2<|Zr1 ?_
  refine Zre (.t U .n) hS [] 1 ?_ U U U
  rotate_left
  refine Zsk<|Zxn<|Zxs<|Za 4 [4,0] U U<|Zn ?_
  refine Zrt<|Zre (.t U .n) hS [] 1 ?_ U U U
  rotate_left
  all_goals first
    | exact congrArg Value.bool (may_t h133)
    | (refine congrArg Value.bool ?_
       rw [may_f h133]
       unfold immOk
       repeat (first | rw [if_neg (by omega)] | rw [if_pos (by omega)]))
def encF (f:Int) (i:Ins):Int:=
 (if f=117∨f=106 then opcF i.op else opcF i.op+f3L.getD i.op.toNat 0*4096)+(i.rd:Int)*128+(i.rs1:Int)*32768+(i.rs2:Int)*1048576 +
 (if f=117 then i.imm else if f=106 then bitsF i.imm 20 20*2147483648+bitsF i.imm 10 1*2097152+bitsF i.imm 11 11*1048576+bitsF i.imm 19 12*4096
 else if f=98 then bitsF i.imm 12 12*2147483648+bitsF i.imm 10 5*33554432+bitsF i.imm 4 1*256+bitsF i.imm 11 11*128
 else if f=115 then bitsF i.imm 11 5*33554432+bitsF i.imm 4 0*128 else if f=105∨f=108 then bitsF i.imm 11 0*1048576
 else if f=104 then f7F i.op.toNat*33554432+i.imm*1048576 else if f=102 then i.imm*1048576 else if f=99 then 4047503360
 else (if f=97∨f=113 then (bif i.aq then 67108864 else 0)+(bif i.rl then 33554432 else 0) else 0)+f7F i.op.toNat*33554432)
theorem p2s:(2:Int) ^ Int.toNat 31=2147483648∧(2:Int) ^ Int.toNat 26=67108864∧(2:Int) ^ Int.toNat 25=33554432∧(2:Int) ^ Int.toNat 21=2097152∧(2:Int) ^ Int.toNat 20=1048576∧(2:Int) ^ Int.toNat 12=4096∧(2:Int) ^ Int.toNat 8=256∧(2:Int) ^ Int.toNat 7=128:=⟨rfl,rfl,rfl,rfl,rfl,rfl,rfl,rfl⟩
theorem tns:Int.toNat 0=0∧Int.toNat 1=1∧Int.toNat 4=4∧Int.toNat 5=5∧Int.toNat 10=10∧Int.toNat 11=11∧Int.toNat 12=12∧Int.toNat 19=19∧Int.toNat 20=20:=⟨rfl,rfl,rfl,rfl,rfl,rfl,rfl,rfl,rfl⟩
theorem mm (x c:Int):x%4294967296*c%4294967296=x*c%4294967296:=by rw [Int.mul_emod,Int.emod_emod,← Int.mul_emod]
theorem c114 (i:Ins) (h:0≤i.op∧i.op<60:=by assumption) (hi:U32 i.imm:=by assumption):Sp Tryz.prog 114 [.agg (insE.arr i)] [] fun K=>K (.returned (.int .u32 (w32 (encF (formF i.op) i)))) []:=by
 refine Zen Tryz.func114 U U U fun e X Φ hS=>Zsr<|Ze (ebxE U) fun b1=>Zw<|Zy U<|Zns<|Za 3 [0,0] U U ?_
 refine Zns<|Za 3 [4,0] U U<|Zns<|Zm U ?_
 refine Zk (c152 ..) [] U U<|Zq<|Zy U<|Znqs<|Zm U<|Zk (c109 ..) [] U U<|Zq ?_
 refine Zb 2 U<|Zgs U U (fun h15=>?_) (fun h15=>?_)
 refine Zg' U U (dT h15)<|Zm U<|Zg' U U (dT h15)<|Zk (c109 ..) [] U U<|Zq<|Zc 2 [] U U<|Zn<|Zib U (fun h19=>?_) (fun h19=>?_)
 refine Zrg<|Zb 2 U<|Zk (c153 ..) [] U U<|Zq<|Zv (ymul U U U)<|Zv (yadd U U U)<|Zy U<|Zn ?_
 refine Zsr<|Za 3 [1,0] U U<|Zv (ycv Tryz.underlying3 Tryz.underlying40 U U)<|Zv (ymul U U U)<|Zv (yadd U U U)<|Za 2 [2,0] U U<|Zv (ycv Tryz.underlying3 Tryz.underlying40 U U) ?_
 refine Zv (ymul U U U)<|Zv (yadd U U U)<|Za 2 [3,0] U U<|Zv (ycv Tryz.underlying3 Tryz.underlying40 U U)<|Zv (ymul U U U)<|Zv (yadd U U U)<|Zy U<|Zn ?_
 refine Zsq<|Zsr<|Zm U<|Zk (c109 ..) [] U U<|Zq<|Znb<|Zsr<|Zv (yeq U U) ?_
 refine Zy U<|Zn<|Zcf' U (dF h15)<|Zsr<|Zb 2 U<|Zn<|Zif U (fun h48=>?_) (fun h48=>?_)
 refine Zsr<|Zb 2 U<|Zk (c110 ..) [] U U<|Zq<|Zk (c112 ..) [] U U<|Zq<|Zv (ymul U U U)<|Zv (yadd U U U)<|Zm U ?_
 refine Zk (c110 ..) [] U U<|Zq<|Zk (c112 ..) [] U U<|Zq<|Zv (ymul U U U)<|Zv (yadd U U U)<|Zm U<|Zk (c110 ..) [] U U<|Zq<|Zk (c112 ..) [] U U ?_
 refine Zq<|Zv (ymul U U U)<|Zv (yadd U U U)<|Zm U<|Zk (c110 ..) [] U U<|Zq<|Zk (c112 ..) [] U U<|Zq<|Zv (ymul U U U)<|Zv (yadd U U U) ?_
 refine Zy U<|Znr<|Zr2<|Zr1<|Zre (.t U .n) hS [] 1 ?_ U U U
 rotate_left
 refine Zsr<|Zb 2 U<|Zn<|Zif U (fun h71=>?_) (fun h71=>?_)
 refine Zsr<|Zb 2 U<|Zk (c110 ..) [] U U<|Zq<|Zk (c112 ..) [] U U<|Zq<|Zv (ymul U U U)<|Zv (yadd U U U)<|Zm U ?_
 refine Zk (c110 ..) [] U U<|Zq<|Zk (c112 ..) [] U U<|Zq<|Zv (ymul U U U)<|Zv (yadd U U U)<|Zm U<|Zk (c110 ..) [] U U<|Zq<|Zk (c112 ..) [] U U ?_
 refine Zq<|Zv (ymul U U U)<|Zv (yadd U U U)<|Zm U<|Zk (c110 ..) [] U U<|Zq<|Zk (c112 ..) [] U U<|Zq<|Zv (ymul U U U)<|Zv (yadd U U U) ?_
 refine Zy U<|Znr<|Zr2<|Zr1<|Zre (.t U .n) hS [] 1 ?_ U U U
 rotate_left
 refine Zsr<|Zb 2 U<|Zn<|Zif U (fun h94=>?_) (fun h94=>?_)
 refine Zsr<|Zb 2 U<|Zk (c110 ..) [] U U<|Zq<|Zk (c112 ..) [] U U<|Zq<|Zv (ymul U U U)<|Zv (yadd U U U)<|Zm U ?_
 refine Zk (c110 ..) [] U U<|Zq<|Zk (c112 ..) [] U U<|Zq<|Zv (ymul U U U)<|Zv (yadd U U U)<|Zy U<|Znr ?_
 refine Zr2<|Zr1<|Zre (.t U .n) hS [] 1 ?_ U U U
 rotate_left
 refine Zsq<|Zsr<|Zb 2 U<|Zn<|Zif U (fun h107=>?_) (fun h107=>?_)
 refine Zkn<|Zct' U (dT h107)<|Zsr<|Zb 2 U<|Zk (c110 ..) [] U U<|Zq<|Zk (c112 ..) [] U U<|Zq ?_
 refine Zv (ymul U U U)<|Zv (yadd U U U)<|Zy U<|Znr<|Zr2<|Zr1<|Zre (.t U .n) hS [] 1 ?_ U U U
 rotate_left
 refine Zrg<|Zb 2 U<|Zn<|Zif U (fun h107=>?_) (fun h107=>?_)
 refine Zsr<|Zb 2 U<|Zk (c110 ..) [] U U<|Zq<|Zk (c112 ..) [] U U<|Zq<|Zv (ymul U U U)<|Zv (yadd U U U)<|Zy U ?_
 refine Znr<|Zr2<|Zr1<|Zre (.t U .n) hS [] 1 ?_ U U U
 rotate_left
 refine Zsr<|Zb 2 U<|Zn<|Zif U (fun h116=>?_) (fun h116=>?_)
 refine Zsr<|Zb 2 U<|Zk (c154 ..) [] U U<|Zq<|Zk (c112 ..) [] U U<|Zq<|Zv (ymul U U U)<|Zv (yadd U U U)<|Zm U ?_
 refine Zk (c112 ..) [] U U<|Zq<|Zv (ymul U U U)<|Zv (yadd U U U)<|Zy U<|Znr<|Zr2<|Zr1 ?_
 refine Zre (.t U .n) hS [] 1 ?_ U U U
 rotate_left
 refine Zsr<|Zb 2 U<|Zn<|Zif U (fun h128=>?_) (fun h128=>?_)
 refine Zsr<|Zb 2 U<|Zk (c112 ..) [] U U<|Zq<|Zv (ymul U U U)<|Zv (yadd U U U)<|Zy U<|Zn ?_
 refine Zrt<|Zr2<|Zr1<|Zre (.t U .n) hS [] 1 ?_ U U U
 rotate_left
 refine Zsr<|Zb 2 U<|Zn<|Zif U (fun h135=>?_) (fun h135=>?_)
 refine Zsr<|Zm U<|Zk (c112 ..) [] U U<|Zq<|Zv (ymul U U U)<|Zv (yadd U U U)<|Zy U<|Znr ?_
 refine Zr2<|Zr1<|Zre (.t U .n) hS [] 1 ?_ U U U
 rotate_left
 refine Zsq<|Zsr<|Zb 2 U<|Zn<|Zif U (fun h141=>?_) (fun h141=>?_)
 refine Zkn<|Zct' U (dT h141)<|Zsq<|Zsr<|Za 2 [5,0] U U<|Zn<|Zib U (fun h145=>?_) (fun h145=>?_)
 refine Zrg<|Zm U<|Zk (c112 ..) [] U U<|Zq<|Zv (yadd U U U)<|Zy U<|Zns<|Zv (yf 6 U) ?_
 refine Zv (yd 0 U U U)<|Zn<|Zib U (fun h150=>?_) (fun h150=>?_)
 refine Zrg<|Zm U<|Zk (c112 ..) [] U U<|Zq<|Zv (yadd U U U)<|Zy U<|Znl<|Zxn<|Zxs ?_
 refine Zb 2 U<|Zk (c154 ..) [] U U<|Zq<|Zk (c112 ..) [] U U<|Zq<|Zv (ymul U U U)<|Zv (yadd U U U)<|Zy U<|Znl ?_
 refine Zxr<|Zre (.t U .n) hS [] 1 ?_ U U U
 rotate_left
 refine Zsk<|Zxn<|Zxs<|Zb 2 U<|Zk (c154 ..) [] U U<|Zq<|Zk (c112 ..) [] U U<|Zq ?_
 refine Zv (ymul U U U)<|Zv (yadd U U U)<|Zy U<|Znr<|Zre (.t U .n) hS [] 1 ?_ U U U
 rotate_left
 refine Zks<|Za 2 [6,0] U U<|Zn<|Zib U (fun h150=>?_) (fun h150=>?_)
 refine Zrg<|Zm U<|Zk (c112 ..) [] U U<|Zq<|Zv (yadd U U U)<|Zy U<|Znl<|Zxn<|Zxs ?_
 refine Zb 2 U<|Zk (c154 ..) [] U U<|Zq<|Zk (c112 ..) [] U U<|Zq<|Zv (ymul U U U)<|Zv (yadd U U U)<|Zy U<|Znl ?_
 refine Zxr<|Zre (.t U .n) hS [] 1 ?_ U U U
 rotate_left
 refine Zsk<|Zxn<|Zxs<|Zb 2 U<|Zk (c154 ..) [] U U<|Zq<|Zk (c112 ..) [] U U<|Zq ?_
 refine Zv (ymul U U U)<|Zv (yadd U U U)<|Zy U<|Znr<|Zre (.t U .n) hS [] 1 ?_ U U U
 rotate_left
 refine Zrg<|Zb 2 U<|Zn<|Zif U (fun h141=>?_) (fun h141=>?_)
 refine Zsq<|Zsr<|Za 2 [5,0] U U<|Zn<|Zib U (fun h145=>?_) (fun h145=>?_)
 refine Zrg<|Zm U<|Zk (c112 ..) [] U U<|Zq<|Zv (yadd U U U)<|Zy U<|Zns<|Zv (yf 6 U) ?_
 refine Zv (yd 0 U U U)<|Zn<|Zib U (fun h150=>?_) (fun h150=>?_)
 refine Zrg<|Zm U<|Zk (c112 ..) [] U U<|Zq<|Zv (yadd U U U)<|Zy U<|Znl<|Zxn<|Zxs ?_
 refine Zb 2 U<|Zk (c154 ..) [] U U<|Zq<|Zk (c112 ..) [] U U<|Zq<|Zv (ymul U U U)<|Zv (yadd U U U)<|Zy U<|Znl ?_
 refine Zxr<|Zre (.t U .n) hS [] 1 ?_ U U U
 rotate_left
 refine Zsk<|Zxn<|Zxs<|Zb 2 U<|Zk (c154 ..) [] U U<|Zq<|Zk (c112 ..) [] U U<|Zq ?_
 refine Zv (ymul U U U)<|Zv (yadd U U U)<|Zy U<|Znr<|Zre (.t U .n) hS [] 1 ?_ U U U
 rotate_left
 refine Zks<|Za 2 [6,0] U U<|Zn<|Zib U (fun h150=>?_) (fun h150=>?_)
 refine Zrg<|Zm U<|Zk (c112 ..) [] U U<|Zq<|Zv (yadd U U U)<|Zy U<|Znl<|Zxn<|Zxs ?_
 refine Zb 2 U<|Zk (c154 ..) [] U U<|Zq<|Zk (c112 ..) [] U U<|Zq<|Zv (ymul U U U)<|Zv (yadd U U U)<|Zy U<|Znl ?_
 refine Zxr<|Zre (.t U .n) hS [] 1 ?_ U U U
 rotate_left
 refine Zsk<|Zxn<|Zxs<|Zb 2 U<|Zk (c154 ..) [] U U<|Zq<|Zk (c112 ..) [] U U<|Zq ?_
 refine Zv (ymul U U U)<|Zv (yadd U U U)<|Zy U<|Znr<|Zre (.t U .n) hS [] 1 ?_ U U U
 rotate_left
 refine Zsk<|Zxn<|Zxs<|Zb 2 U<|Zk (c154 ..) [] U U<|Zq<|Zk (c112 ..) [] U U<|Zq ?_
 refine Zv (ymul U U U)<|Zv (yadd U U U)<|Zy U<|Znr<|Zre (.t U .n) hS [] 1 ?_ U U U
 rotate_left
 refine Zks<|Za 3 [1,0] U U<|Zv (ycv Tryz.underlying3 Tryz.underlying40 U U)<|Zv (ymul U U U)<|Zv (yadd U U U)<|Zv (yf 2 U) ?_
 refine Zv (yd 0 U U U)<|Zv (ycv Tryz.underlying3 Tryz.underlying40 U U)<|Zv (ymul U U U)<|Zv (yadd U U U)<|Za 2 [3,0] U U<|Zv (ycv Tryz.underlying3 Tryz.underlying40 U U)<|Zv (ymul U U U)<|Zv (yadd U U U)<|Zy U ?_
 refine Znqs<|Zm U<|Zk (c109 ..) [] U U<|Zq<|Znb ?_
 refine Zsr<|Zb 2 U<|Zn<|Zcf' U (dF h15)<|Zsr<|Zb 2 U<|Znl ?_
 refine Znx<|Zif U (fun h48=>?_) (fun h48=>?_)
 refine Zsr<|Zb 2 U<|Zk (c110 ..) [] U U<|Zq<|Zk (c112 ..) [] U U<|Zq<|Zv (ymul U U U)<|Zv (yadd U U U)<|Zm U ?_
 refine Zk (c110 ..) [] U U<|Zq<|Zk (c112 ..) [] U U<|Zq<|Zv (ymul U U U)<|Zv (yadd U U U)<|Zm U<|Zk (c110 ..) [] U U<|Zq<|Zk (c112 ..) [] U U ?_
 refine Zq<|Zv (ymul U U U)<|Zv (yadd U U U)<|Zm U<|Zk (c110 ..) [] U U<|Zq<|Zk (c112 ..) [] U U<|Zq<|Zv (ymul U U U)<|Zv (yadd U U U) ?_
 refine Zy U<|Znr<|Zr2<|Zr1<|Zre (.t U .n) hS [] 1 ?_ U U U
 rotate_left
 refine Zsr<|Zb 2 U<|Zn<|Zif U (fun h71=>?_) (fun h71=>?_)
 refine Zsr<|Zb 2 U<|Zk (c110 ..) [] U U<|Zq<|Zk (c112 ..) [] U U<|Zq<|Zv (ymul U U U)<|Zv (yadd U U U)<|Zm U ?_
 refine Zk (c110 ..) [] U U<|Zq<|Zk (c112 ..) [] U U<|Zq<|Zv (ymul U U U)<|Zv (yadd U U U)<|Zm U<|Zk (c110 ..) [] U U<|Zq<|Zk (c112 ..) [] U U ?_
 refine Zq<|Zv (ymul U U U)<|Zv (yadd U U U)<|Zm U<|Zk (c110 ..) [] U U<|Zq<|Zk (c112 ..) [] U U<|Zq<|Zv (ymul U U U)<|Zv (yadd U U U) ?_
 refine Zy U<|Znr<|Zr2<|Zr1<|Zre (.t U .n) hS [] 1 ?_ U U U
 rotate_left
 refine Zsr<|Zb 2 U<|Zn<|Zif U (fun h94=>?_) (fun h94=>?_)
 refine Zsr<|Zb 2 U<|Zk (c110 ..) [] U U<|Zq<|Zk (c112 ..) [] U U<|Zq<|Zv (ymul U U U)<|Zv (yadd U U U)<|Zm U ?_
 refine Zk (c110 ..) [] U U<|Zq<|Zk (c112 ..) [] U U<|Zq<|Zv (ymul U U U)<|Zv (yadd U U U)<|Zy U<|Znr ?_
 refine Zr2<|Zr1<|Zre (.t U .n) hS [] 1 ?_ U U U
 rotate_left
 refine Zsq<|Zsr<|Zb 2 U<|Zn<|Zif U (fun h107=>?_) (fun h107=>?_)
 refine Zkn<|Zct' U (dT h107)<|Zsr<|Zb 2 U<|Zk (c110 ..) [] U U<|Zq<|Zk (c112 ..) [] U U<|Zq ?_
 refine Zv (ymul U U U)<|Zv (yadd U U U)<|Zy U<|Znr<|Zr2<|Zr1<|Zre (.t U .n) hS [] 1 ?_ U U U
 rotate_left
 refine Zrg<|Zb 2 U<|Zn<|Zif U (fun h107=>?_) (fun h107=>?_)
 refine Zsr<|Zb 2 U<|Zk (c110 ..) [] U U<|Zq<|Zk (c112 ..) [] U U<|Zq<|Zv (ymul U U U)<|Zv (yadd U U U)<|Zy U ?_
 refine Znr<|Zr2<|Zr1<|Zre (.t U .n) hS [] 1 ?_ U U U
 rotate_left
 refine Zsr<|Zb 2 U<|Zn<|Zif U (fun h116=>?_) (fun h116=>?_)
 refine Zsr<|Zb 2 U<|Zk (c154 ..) [] U U<|Zq<|Zk (c112 ..) [] U U<|Zq<|Zv (ymul U U U)<|Zv (yadd U U U)<|Zm U ?_
 refine Zk (c112 ..) [] U U<|Zq<|Zv (ymul U U U)<|Zv (yadd U U U)<|Zy U<|Znr<|Zr2<|Zr1 ?_
 refine Zre (.t U .n) hS [] 1 ?_ U U U
 rotate_left
 refine Zsr<|Zb 2 U<|Zn<|Zif U (fun h128=>?_) (fun h128=>?_)
 refine Zsr<|Zb 2 U<|Zk (c112 ..) [] U U<|Zq<|Zv (ymul U U U)<|Zv (yadd U U U)<|Zy U<|Zn ?_
 refine Zrt<|Zr2<|Zr1<|Zre (.t U .n) hS [] 1 ?_ U U U
 rotate_left
 refine Zsr<|Zb 2 U<|Zn<|Zif U (fun h135=>?_) (fun h135=>?_)
 refine Zsr<|Zm U<|Zk (c112 ..) [] U U<|Zq<|Zv (ymul U U U)<|Zv (yadd U U U)<|Zy U<|Znr ?_
 refine Zr2<|Zr1<|Zre (.t U .n) hS [] 1 ?_ U U U
 rotate_left
 refine Zsq<|Zsr<|Zb 2 U<|Zn<|Zif U (fun h141=>?_) (fun h141=>?_)
 refine Zkn<|Zct' U (dT h141)<|Zsq<|Zsr<|Za 2 [5,0] U U<|Zn<|Zib U (fun h145=>?_) (fun h145=>?_)
 refine Zrg<|Zm U<|Zk (c112 ..) [] U U<|Zq<|Zv (yadd U U U)<|Zy U<|Zns<|Zv (yf 6 U) ?_
 refine Zv (yd 0 U U U)<|Zn<|Zib U (fun h150=>?_) (fun h150=>?_)
 refine Zrg<|Zm U<|Zk (c112 ..) [] U U<|Zq<|Zv (yadd U U U)<|Zy U<|Znl<|Zxn<|Zxs ?_
 refine Zb 2 U<|Zk (c154 ..) [] U U<|Zq<|Zk (c112 ..) [] U U<|Zq<|Zv (ymul U U U)<|Zv (yadd U U U)<|Zy U<|Znl ?_
 refine Zxr<|Zre (.t U .n) hS [] 1 ?_ U U U
 rotate_left
 refine Zsk<|Zxn<|Zxs<|Zb 2 U<|Zk (c154 ..) [] U U<|Zq<|Zk (c112 ..) [] U U<|Zq ?_
 refine Zv (ymul U U U)<|Zv (yadd U U U)<|Zy U<|Znr<|Zre (.t U .n) hS [] 1 ?_ U U U
 rotate_left
 refine Zks<|Za 2 [6,0] U U<|Zn<|Zib U (fun h150=>?_) (fun h150=>?_)
 refine Zrg<|Zm U<|Zk (c112 ..) [] U U<|Zq<|Zv (yadd U U U)<|Zy U<|Znl<|Zxn<|Zxs ?_
 refine Zb 2 U<|Zk (c154 ..) [] U U<|Zq<|Zk (c112 ..) [] U U<|Zq<|Zv (ymul U U U)<|Zv (yadd U U U)<|Zy U<|Znl ?_
 refine Zxr<|Zre (.t U .n) hS [] 1 ?_ U U U
 rotate_left
 refine Zsk<|Zxn<|Zxs<|Zb 2 U<|Zk (c154 ..) [] U U<|Zq<|Zk (c112 ..) [] U U<|Zq ?_
 refine Zv (ymul U U U)<|Zv (yadd U U U)<|Zy U<|Znr<|Zre (.t U .n) hS [] 1 ?_ U U U
 rotate_left
 refine Zrg<|Zb 2 U<|Zn<|Zif U (fun h141=>?_) (fun h141=>?_)
 refine Zsq<|Zsr<|Za 2 [5,0] U U<|Zn<|Zib U (fun h145=>?_) (fun h145=>?_)
 refine Zrg<|Zm U<|Zk (c112 ..) [] U U<|Zq<|Zv (yadd U U U)<|Zy U<|Zns<|Zv (yf 6 U) ?_
 refine Zv (yd 0 U U U)<|Zn<|Zib U (fun h150=>?_) (fun h150=>?_)
 refine Zrg<|Zm U<|Zk (c112 ..) [] U U<|Zq<|Zv (yadd U U U)<|Zy U<|Znl<|Zxn<|Zxs ?_
 refine Zb 2 U<|Zk (c154 ..) [] U U<|Zq<|Zk (c112 ..) [] U U<|Zq<|Zv (ymul U U U)<|Zv (yadd U U U)<|Zy U<|Znl ?_
 refine Zxr<|Zre (.t U .n) hS [] 1 ?_ U U U
 rotate_left
 refine Zsk<|Zxn<|Zxs<|Zb 2 U<|Zk (c154 ..) [] U U<|Zq<|Zk (c112 ..) [] U U<|Zq ?_
 refine Zv (ymul U U U)<|Zv (yadd U U U)<|Zy U<|Znr<|Zre (.t U .n) hS [] 1 ?_ U U U
 rotate_left
 refine Zks<|Za 2 [6,0] U U<|Zn<|Zib U (fun h150=>?_) (fun h150=>?_)
 refine Zrg<|Zm U<|Zk (c112 ..) [] U U<|Zq<|Zv (yadd U U U)<|Zy U<|Znl<|Zxn<|Zxs ?_
 refine Zb 2 U<|Zk (c154 ..) [] U U<|Zq<|Zk (c112 ..) [] U U<|Zq<|Zv (ymul U U U)<|Zv (yadd U U U)<|Zy U<|Znl ?_
 refine Zxr<|Zre (.t U .n) hS [] 1 ?_ U U U
 rotate_left
 refine Zsk<|Zxn<|Zxs<|Zb 2 U<|Zk (c154 ..) [] U U<|Zq<|Zk (c112 ..) [] U U<|Zq ?_
 refine Zv (ymul U U U)<|Zv (yadd U U U)<|Zy U<|Znr<|Zre (.t U .n) hS [] 1 ?_ U U U
 rotate_left
 refine Zsk<|Zxn<|Zxs<|Zb 2 U<|Zk (c154 ..) [] U U<|Zq<|Zk (c112 ..) [] U U<|Zq ?_
 refine Zv (ymul U U U)<|Zv (yadd U U U)<|Zy U<|Znr<|Zre (.t U .n) hS [] 1 ?_ U U U
 rotate_left
 refine Zu' U U (dF h15) U<|Zu' U U (dF h15) U<|Zu' U U (dF h15) U<|Zv (ypf' U (dF h15) U)<|Zn<|Zcf U<|Zks ?_
 refine Za 3 [1,0] U U<|Zv (ycv Tryz.underlying3 Tryz.underlying40 U U)<|Zv (ymul U U U)<|Zv (yadd U U U)<|Za 2 [2,0] U U<|Zv (ycv Tryz.underlying3 Tryz.underlying40 U U)<|Zv (ymul U U U) ?_
 refine Zv (yadd U U U)<|Za 2 [3,0] U U<|Zv (ycv Tryz.underlying3 Tryz.underlying40 U U)<|Zv (ymul U U U)<|Zv (yadd U U U)<|Zy U<|Znq ?_
 refine Zsr<|Zm U<|Zk (c109 ..) [] U U<|Zq<|Znb<|Zsr<|Zb 2 U ?_
 refine Zn<|Zct' U (dT (by omega))<|Zsr<|Zb 2 U<|Zv (yadd U U U)<|Zy U<|Zn ?_
 refine Zrt<|Zr2<|Zr1<|Zre (.t U .n) hS [] 1 ?_ U U U
 rotate_left
 all_goals refine ik ?_
 all_goals try simp only [Bool.and_eq_true,Bool.and_eq_false_iff,decide_eq_true_eq,decide_eq_false_iff_not] at h19
 all_goals try (exfalso;omega)
 all_goals obtain ⟨p31,p26,p25,p21,p20,p12,p8,p7⟩:=p2s
 all_goals obtain ⟨t0,t1,t4,t5,t10,t11,t12,t19,t20⟩:=tns
 all_goals simp only [p31,p26,p25,p21,p20,p12,p8,p7,t0,t1,t4,t5,t10,t11,t12,t19,t20,u32m,w32_eq,mm,Int.emod_add_emod,Int.add_emod_emod]
 all_goals refine congrArg (· % 4294967296) ?_
 all_goals unfold encF
 all_goals repeat (first | rw [if_neg (by omega)] | rw [if_pos (by omega)])
 all_goals try omega
 all_goals
  rw [h145,h150]
  simp only [cond_true,cond_false]
  omega
def rdF (f w:Int):Nat:=if (decide (f≠98) && decide (f≠115) && decide (f≠102) && decide (f≠101))=true then (bitsF w 11 7).toNat else 0
def r1F (f w:Int):Nat:=if (decide (f≠117) && decide (f≠106) && decide (f≠102) && decide (f≠101) && decide (f≠99))=true then (bitsF w 19 15).toNat else 0
def r2F (f w:Int):Nat:=if (decide (f=98) || decide (f=115) || decide (f=114) || decide (f=97))=true then (bitsF w 24 20).toNat else 0
def jW (w:Int):Int:=sgnF (IntKind.u32.wrap (IntKind.u32.wrap (IntKind.u32.wrap (IntKind.u32.wrap (bitsF w (Int.toNat 31) (Int.toNat 31)*2 ^ Int.toNat 20)+IntKind.u32.wrap (bitsF w (Int.toNat 19) (Int.toNat 12)*2 ^ Int.toNat 12))+IntKind.u32.wrap (bitsF w (Int.toNat 20) (Int.toNat 20)*2 ^ Int.toNat 11))+IntKind.u32.wrap (bitsF w (Int.toNat 30) (Int.toNat 21)*2))) (Int.toNat 21)
def bW (w:Int):Int:=sgnF (IntKind.u32.wrap (IntKind.u32.wrap (IntKind.u32.wrap (IntKind.u32.wrap (bitsF w (Int.toNat 31) (Int.toNat 31)*2 ^ Int.toNat 12)+IntKind.u32.wrap (bitsF w (Int.toNat 7) (Int.toNat 7)*2 ^ Int.toNat 11))+IntKind.u32.wrap (bitsF w (Int.toNat 30) (Int.toNat 25)*32))+IntKind.u32.wrap (bitsF w (Int.toNat 11) (Int.toNat 8)*2))) (Int.toNat 13)
def sW (w:Int):Int:=sgnF (IntKind.u32.wrap (IntKind.u32.wrap (bitsF w (Int.toNat 31) (Int.toNat 25)*32)+bitsF w (Int.toNat 11) (Int.toNat 7))) (Int.toNat 12)
def iW (w:Int):Int:=sgnF (bitsF w (Int.toNat 31) (Int.toNat 20)) (Int.toNat 12)
def imF (f w:Int):Int:=
 if f=117 then IntKind.u32.wrap (w-w.tmod 4096) else if f=106 then jW w else if f=98 then bW w else if f=115 then sW w else if f=105∨f=108 then iW w
 else if f=104 then bitsF w (Int.toNat 24) (Int.toNat 20) else if f=102 then bitsF w (Int.toNat 27) (Int.toNat 20) else 0
def aqF (f w:Int) (k:Nat):Bool:=if f=97∨f=113 then decide (bitsF w k k=1) else false
theorem aq_no {f w:Int} {k:Nat} (h:¬ (f=97∨f=113)):false=aqF f w k:=by unfold aqF;rw [if_neg h]
theorem aq_yes {f w:Int} {k:Nat} (h:f=97∨f=113):decide (bitsF w k k=1)=aqF f w k:=by unfold aqF;rw [if_pos h]
def candF (w op:Int):Ins:=⟨op,rdF (formF op) w,r1F (formF op) w,r2F (formF op) w,imF (formF op) w,aqF (formF op) w 26,aqF (formF op) w 25⟩
def fitF (w op:Int):Bool:=mayF (candF w op) && decide (w32 (encF (formF op) (candF w op))=w)
def decR (w:Int):Nat→Int→Ins × Bool
 | 0,_=>(ins0,false)
 | n+1,op=>if fitF w op=true then (candF w op,true) else decR w n (op+1)
theorem sgn_u {x:Int} {k:Nat} (h:U32 x):U32 (sgnF x k):=by unfold sgnF;split;exact w32_u _;exact h
theorem im_u {w:Int} (hw:U32 w) (f:Int):U32 (imF f w):=by
 unfold imF
 repeat' split
 all_goals first | exact w32_u _ | exact sgn_u (w32_u _) | exact sgn_u (bits_u hw _ _) | exact bits_u hw _ _ | exact ⟨by decide,by decide⟩
theorem bits_n {w:Int} (hw:U32 w) (hi lo:Nat):IntKind.i64.wrap (bitsF w hi lo)=((bitsF w hi lo).toNat:Int):=by
 have h:=bits_u hw hi lo
 unfold U32 at h
 rw [i64i ⟨by omega,by omega⟩]
 omega
theorem dec_s {w:Int} {n:Nat} (hn:(n:Int)+1≤59) (hd:decR w 59 1=decR w (59-n) ((n:Int)+1)):decR w 59 1=if fitF w ((n:Int)+1)=true then (candF w ((n:Int)+1),true) else decR w (59-(n+1)) (((n+1:Nat):Int)+1):=by
 rw [hd,show 59-n=59-(n+1)+1 by omega]
 rfl
theorem dec_e {w:Int} {n:Nat} (hn:¬ (n:Int)+1≤59) (hd:decR w 59 1=decR w (59-n) ((n:Int)+1)):decR w 59 1=(ins0,false):=by
 rw [hd,show 59-n=0 by omega]
 rfl
theorem tq {D:Ins × Bool} {i:Ins} {b:Bool} (h:D=(i,b)):pk [.agg (insE.cells i).toArray,.bool b] = .tuple #[.agg (insE.arr D.1),.bool D.2]:=by subst h;rfl
theorem fit_n {w op:Int} (h:mayF (candF w op)=false):fitF w op=false:=by unfold fitF;rw [h];rfl
theorem d65 (w:Int) (hw:U32 w:=by assumption):Sp Tryz.prog 65 [.int .u32 w] [] fun K=>K (.returned (.tuple #[.agg (insE.arr (decR w 59 1).1),.bool (decR w 59 1).2])) []:=by
 have hn1:=bits_n hw (Int.toNat 11) (Int.toNat 7)
 have hn2:=bits_n hw (Int.toNat 19) (Int.toNat 15)
 have hn3:=bits_n hw (Int.toNat 24) (Int.toNat 20)
 refine Zen Tryz.func65 U U U fun e X Φ hS=>Zsr<|Ze (eal z167) fun b2=>Zw<|Zy U<|Znqs<|Zy U<|Znl ?_
 refine Znx<|Zbl ?_
 refine Zlq (ι:={ n:Nat // n≤59∧decR w 59 1=decR w (59-n) (n+1) }) (fun n=>[(4,.int .i64 ((n.1:Int)+1)),(0,.int .u32 w),(2,pt b2)]) (fun n=>[.blk b2 167 (insE.cells ins0)]) (fun n=>59-n.1) ⟨0,by omega,rfl⟩ ⟨U,U,U,trivial⟩ [0] U fun n=>Zsq<|Zsr<|Zb 2 U<|Zn<|Zif U (fun h8=>?_) (fun h8=>?_)
 refine Zkn<|Zsq<|Zbl<|Zsr<|Zm U<|Zk (c109 ..) [] U U<|Zq<|Zy U<|Znl ?_
 refine Zxs<|Zm U<|Zv (yb l167 U)<|Ze (eal z167) fun b6=>Zw<|Ze (esw 0 (m:=7) U U U U U U U)<|Zw0<|Znqs ?_
 refine Zb 3 U<|Zc 11 [] U U<|Zn ?_
 rotate_left
 refine Zex<|Zxt<|Zxt<|Zxx<|Zxs<|Zv (yb l167 U)<|Ze (esw 0 (m:=7) U U U U (Enc.len ..) U U)<|Zw0<|Zy U<|Znl ?_
 refine Zxr<|Zre (.wh 0 (m:=7) U U U (.t U .n)) hS [] 1 ?_ U U U
 rotate_left
 ·refine Zjm (ι:={ r:Nat // r=rdF (formF ((n.1:Int)+1)) w }) (fun _=>[(4,.int .i64 ((n.1:Int)+1)),(5,.int .u8 (formF ((n.1:Int)+1))),(0,.int .u32 w),(2,pt b2),(6,pt b6)]) (fun r=>[.blk b6 167 (insE.cells ⟨(n.1:Int)+1,r.1,0,0,0,false,false⟩),.blk b2 167 (insE.cells ins0)]) X ?_ fun r=>?_
  rotate_left
  refine Zsq<|Zsr<|Zb 3 U<|Zc 15 [] U U<|Zn ?_
  rotate_left
  ·refine Zib U (fun h28=>?_) (fun h28=>?_)
   refine Zrg<|Zm U<|Zk (c110 ..) [] U U<|Zq<|Zv (ycv Tryz.underlying40 Tryz.underlying3 U U)<|Zv (yf 1 U)<|Ze (es 0 U U U U U)<|Zw0<|Znl ?_
   rotate_left
   refine Zsk ?_
   rotate_left
   ·rw [hn1]
    refine Zjr ⟨(bitsF w 11 7).toNat,(if_pos h28).symm⟩ ⟨U,U,U,U,U,trivial⟩ [0,0] 0 U U
   ·refine Zjr ⟨0,(if_neg (by rw [h28];decide)).symm⟩ ⟨U,U,U,U,U,trivial⟩ [0,0] 0 U U
  ·
   refine Zjm (ι:={ s:Nat // s=r1F (formF ((n.1:Int)+1)) w }) (fun _=>[(4,.int .i64 ((n.1:Int)+1)),(5,.int .u8 (formF ((n.1:Int)+1))),(0,.int .u32 w),(2,pt b2),(6,pt b6)]) (fun s=>[.blk b6 167 (insE.cells ⟨(n.1:Int)+1,r.1,s.1,0,0,false,false⟩),.blk b2 167 (insE.cells ins0)]) X ?_ fun s=>?_
   rotate_left
   refine Zsq<|Zsr<|Zb 3 U<|Zc 11 [] U U<|Zn ?_
   rotate_left
   ·refine Zib U (fun h50=>?_) (fun h50=>?_)
    refine Zrg<|Zm U<|Zk (c110 ..) [] U U<|Zq<|Zv (ycv Tryz.underlying40 Tryz.underlying3 U U)<|Zv (yf 2 U)<|Ze (es 0 U U U U U)<|Zw0<|Znl ?_
    rotate_left
    refine Zsk ?_
    rotate_left
    ·rw [hn2]
     refine Zjr ⟨(bitsF w 19 15).toNat,(if_pos h50).symm⟩ ⟨U,U,U,U,U,trivial⟩ [0,0] 0 U U
    ·refine Zjr ⟨0,(if_neg (by rw [h50];decide)).symm⟩ ⟨U,U,U,U,U,trivial⟩ [0,0] 0 U U
   ·
    refine Zjm (ι:={ t:Nat // t=r2F (formF ((n.1:Int)+1)) w }) (fun _=>[(4,.int .i64 ((n.1:Int)+1)),(5,.int .u8 (formF ((n.1:Int)+1))),(0,.int .u32 w),(2,pt b2),(6,pt b6)]) (fun t=>[.blk b6 167 (insE.cells ⟨(n.1:Int)+1,r.1,s.1,t.1,0,false,false⟩),.blk b2 167 (insE.cells ins0)]) X ?_ fun t=>?_
    refine Zib U (fun h68=>?_) (fun h68=>?_)
    refine Zrg<|Zm U<|Zk (c110 ..) [] U U<|Zq<|Zv (ycv Tryz.underlying40 Tryz.underlying3 U U)<|Zv (yf 3 U)<|Ze (es 0 U U U U U)<|Zw0<|Znl ?_
    rotate_left
    refine Zsk ?_
    rotate_left
    refine Zsq<|Zsr<|Zm U<|Zn ?_
    rotate_left
    ·rw [hn3]
     refine Zjr ⟨(bitsF w 24 20).toNat,(if_pos h68).symm⟩ ⟨U,U,U,U,U,trivial⟩ [0,0] 0 U U
    ·refine Zjr ⟨0,(if_neg (by rw [h68];decide)).symm⟩ ⟨U,U,U,U,U,trivial⟩ [0,0] 0 U U
    ·refine Zjm (ι:={ q:Int × Bool × Bool // q=(imF (formF ((n.1:Int)+1)) w,aqF (formF ((n.1:Int)+1)) w 26,aqF (formF ((n.1:Int)+1)) w 25) }) (fun _=>[(4,.int .i64 ((n.1:Int)+1)),(0,.int .u32 w),(2,pt b2),(6,pt b6)]) (fun q=>[.blk b6 167 (insE.cells ⟨(n.1:Int)+1,r.1,s.1,t.1,q.1.1,q.1.2.1,q.1.2.2⟩),.blk b2 167 (insE.cells ins0)]) X ?_ fun q=>?_
     refine Zbl<|Zsr<|Zb 2 U<|Zn<|Zif U (fun h74=>?_) (fun h74=>?_)
     refine Zrg<|Zb 2 U<|Zv (yrem U U (by decide) U)<|Zv (ysub U U U)<|Zv (yf 4 U)<|Ze (es 0 U U U U U)<|Zw0<|Znl<|Zxn ?_
     rotate_left
     refine Zsr<|Zb 2 U<|Zn<|Zif U (fun h81=>?_) (fun h81=>?_)
     refine Zrg<|Zm U<|Zk (c110 ..) [] U U<|Zq<|Zk (c112 ..) [] U U<|Zq<|Zv (ymul U U U)<|Zm U<|Zk (c110 ..) [] U U<|Zq ?_
     refine Zk (c112 ..) [] U U<|Zq<|Zv (ymul U U U)<|Zv (yadd U U U)<|Zm U<|Zk (c110 ..) [] U U<|Zq<|Zk (c112 ..) [] U U<|Zq<|Zv (ymul U U U) ?_
     refine Zv (yadd U U U)<|Zm U<|Zk (c110 ..) [] U U<|Zq<|Zv (ymul U U U)<|Zv (yadd U U U)<|Zk (c111 ..) [] U U<|Zq<|Zv (yf 4 U)<|Ze (es 0 U U U U U)<|Zw0 ?_
     refine Znl<|Zxn ?_
     rotate_left
     refine Zsr<|Zb 2 U<|Zn<|Zif U (fun h103=>?_) (fun h103=>?_)
     refine Zrg<|Zm U<|Zk (c110 ..) [] U U<|Zq<|Zk (c112 ..) [] U U<|Zq<|Zv (ymul U U U)<|Zm U<|Zk (c110 ..) [] U U<|Zq ?_
     refine Zk (c112 ..) [] U U<|Zq<|Zv (ymul U U U)<|Zv (yadd U U U)<|Zm U<|Zk (c110 ..) [] U U<|Zq<|Zv (ymul U U U)<|Zv (yadd U U U)<|Zm U ?_
     refine Zk (c110 ..) [] U U<|Zq<|Zv (ymul U U U)<|Zv (yadd U U U)<|Zk (c111 ..) [] U U<|Zq<|Zv (yf 4 U)<|Ze (es 0 U U U U U)<|Zw0<|Znl<|Zxn ?_
     rotate_left
     refine Zsr<|Zb 2 U<|Zn<|Zif U (fun h124=>?_) (fun h124=>?_)
     refine Zrg<|Zm U<|Zk (c110 ..) [] U U<|Zq<|Zv (ymul U U U)<|Zm U<|Zk (c110 ..) [] U U<|Zq<|Zv (yadd U U U)<|Zk (c111 ..) [] U U ?_
     refine Zq<|Zv (yf 4 U)<|Ze (es 0 U U U U U)<|Zw0<|Znl<|Zxn ?_
     rotate_left
     refine Zsq<|Zsr<|Zb 2 U<|Zn<|Zif U (fun h134=>?_) (fun h134=>?_)
     refine Zkn<|Zct' U (dT h134)<|Zrg<|Zm U<|Zk (c110 ..) [] U U<|Zq<|Zk (c111 ..) [] U U<|Zq<|Zv (yf 4 U) ?_
     refine Ze (es 0 U U U U U)<|Zw0<|Znl<|Zxn ?_
     rotate_left
     refine Zrg<|Zb 2 U<|Zn<|Zif U (fun h134=>?_) (fun h134=>?_)
     refine Zrg<|Zm U<|Zk (c110 ..) [] U U<|Zq<|Zk (c111 ..) [] U U<|Zq<|Zv (yf 4 U)<|Ze (es 0 U U U U U)<|Zw0<|Znl<|Zxn ?_
     rotate_left
     refine Zsr<|Zb 2 U<|Zn<|Zif U (fun h141=>?_) (fun h141=>?_)
     refine Zrg<|Zm U<|Zk (c110 ..) [] U U<|Zq<|Zv (yf 4 U)<|Ze (es 0 U U U U U)<|Zw0<|Znl<|Zxn ?_
     rotate_left
     refine Zsr<|Zb 2 U<|Zn<|Zif U (fun h146=>?_) (fun h146=>?_)
     refine Zrg<|Zm U<|Zk (c110 ..) [] U U<|Zq<|Zv (yf 4 U)<|Ze (es 0 U U U U U)<|Zw0<|Znl<|Zxn ?_
     rotate_left
     refine Zsq<|Zsr<|Zb 2 U<|Zn<|Zif U (fun h151=>?_) (fun h151=>?_)
     refine Zkn<|Zct' U (dT h151)<|Zrg<|Zm U<|Zk (c110 ..) [] U U<|Zq<|Zb 2 U<|Zk (c110 ..) [] U U ?_
     refine Zq<|Za 2 [5] U U<|Ze (es 0 U U U U U)<|Zw0<|Zv (yf 6 U)<|Ze (es 0 U U U U U)<|Zw0<|Znl<|Zxn ?_
     rotate_left
     refine Zrg<|Zb 2 U<|Zn<|Zif U (fun h151=>?_) (fun h151=>?_)
     refine Zrg<|Zm U<|Zk (c110 ..) [] U U<|Zq<|Zb 2 U<|Zk (c110 ..) [] U U<|Zq<|Za 2 [5] U U ?_
     refine Ze (es 0 U U U U U)<|Zw0<|Zv (yf 6 U)<|Ze (es 0 U U U U U)<|Zw0<|Znl<|Zxn ?_
     rotate_left
     refine Zsk<|Zxn ?_
     rotate_left
     refine Zsr<|Zv (ydw 0 (m:=7) U U (Enc.len ..)) ?_
     rotate_left
     ·refine Zjr (Y':=X) ⟨(IntKind.u32.wrap (w-w.tmod 4096),false,false),Prod.ext ?_ (Prod.ext ?_ ?_)⟩ ⟨U,U,U,U,trivial⟩ [0,0] 0 U U
      ·unfold imF;repeat (first | rw [if_neg (by omega)] | rw [if_pos (by omega)])
      ·first | exact aq_no (by omega) | exact aq_yes (by omega)
      ·first | exact aq_no (by omega) | exact aq_yes (by omega)
     ·refine Zjr (Y':=X) ⟨(jW w,false,false),Prod.ext ?_ (Prod.ext ?_ ?_)⟩ ⟨U,U,U,U,trivial⟩ [0,0] 0 U U
      ·unfold imF;repeat (first | rw [if_neg (by omega)] | rw [if_pos (by omega)])
      ·first | exact aq_no (by omega) | exact aq_yes (by omega)
      ·first | exact aq_no (by omega) | exact aq_yes (by omega)
     ·refine Zjr (Y':=X) ⟨(bW w,false,false),Prod.ext ?_ (Prod.ext ?_ ?_)⟩ ⟨U,U,U,U,trivial⟩ [0,0] 0 U U
      ·unfold imF;repeat (first | rw [if_neg (by omega)] | rw [if_pos (by omega)])
      ·first | exact aq_no (by omega) | exact aq_yes (by omega)
      ·first | exact aq_no (by omega) | exact aq_yes (by omega)
     ·refine Zjr (Y':=X) ⟨(sW w,false,false),Prod.ext ?_ (Prod.ext ?_ ?_)⟩ ⟨U,U,U,U,trivial⟩ [0,0] 0 U U
      ·unfold imF;repeat (first | rw [if_neg (by omega)] | rw [if_pos (by omega)])
      ·first | exact aq_no (by omega) | exact aq_yes (by omega)
      ·first | exact aq_no (by omega) | exact aq_yes (by omega)
     ·refine Zjr (Y':=X) ⟨(iW w,false,false),Prod.ext ?_ (Prod.ext ?_ ?_)⟩ ⟨U,U,U,U,trivial⟩ [0,0] 0 U U
      ·unfold imF;repeat (first | rw [if_neg (by omega)] | rw [if_pos (by omega)])
      ·first | exact aq_no (by omega) | exact aq_yes (by omega)
      ·first | exact aq_no (by omega) | exact aq_yes (by omega)
     ·refine Zjr (Y':=X) ⟨(iW w,false,false),Prod.ext ?_ (Prod.ext ?_ ?_)⟩ ⟨U,U,U,U,trivial⟩ [0,0] 0 U U
      ·unfold imF;repeat (first | rw [if_neg (by omega)] | rw [if_pos (by omega)])
      ·first | exact aq_no (by omega) | exact aq_yes (by omega)
      ·first | exact aq_no (by omega) | exact aq_yes (by omega)
     ·refine Zjr (Y':=X) ⟨(bitsF w (Int.toNat 24) (Int.toNat 20),false,false),Prod.ext ?_ (Prod.ext ?_ ?_)⟩ ⟨U,U,U,U,trivial⟩ [0,0] 0 U U
      ·unfold imF;repeat (first | rw [if_neg (by omega)] | rw [if_pos (by omega)])
      ·first | exact aq_no (by omega) | exact aq_yes (by omega)
      ·first | exact aq_no (by omega) | exact aq_yes (by omega)
     ·refine Zjr (Y':=X) ⟨(bitsF w (Int.toNat 27) (Int.toNat 20),false,false),Prod.ext ?_ (Prod.ext ?_ ?_)⟩ ⟨U,U,U,U,trivial⟩ [0,0] 0 U U
      ·unfold imF;repeat (first | rw [if_neg (by omega)] | rw [if_pos (by omega)])
      ·first | exact aq_no (by omega) | exact aq_yes (by omega)
      ·first | exact aq_no (by omega) | exact aq_yes (by omega)
     ·refine Zjr (Y':=X) ⟨(0,decide (bitsF w (Int.toNat 26) (Int.toNat 26)=1),decide (bitsF w (Int.toNat 25) (Int.toNat 25)=1)),Prod.ext ?_ (Prod.ext ?_ ?_)⟩ ⟨U,U,U,U,trivial⟩ [0,0] 0 U U
      ·unfold imF;repeat (first | rw [if_neg (by omega)] | rw [if_pos (by omega)])
      ·first | exact aq_no (by omega) | exact aq_yes (by omega)
      ·first | exact aq_no (by omega) | exact aq_yes (by omega)
     ·refine Zjr (Y':=X) ⟨(0,decide (bitsF w (Int.toNat 26) (Int.toNat 26)=1),decide (bitsF w (Int.toNat 25) (Int.toNat 25)=1)),Prod.ext ?_ (Prod.ext ?_ ?_)⟩ ⟨U,U,U,U,trivial⟩ [0,0] 0 U U
      ·unfold imF;repeat (first | rw [if_neg (by omega)] | rw [if_pos (by omega)])
      ·first | exact aq_no (by omega) | exact aq_yes (by omega)
      ·first | exact aq_no (by omega) | exact aq_yes (by omega)
     ·refine Zjr (Y':=X) ⟨(0,false,false),Prod.ext ?_ (Prod.ext ?_ ?_)⟩ ⟨U,U,U,U,trivial⟩ [0,0] 0 U U
      ·unfold imF;repeat (first | rw [if_neg (by omega)] | rw [if_pos (by omega)])
      ·first | exact aq_no (by omega) | exact aq_yes (by omega)
      ·first | exact aq_no (by omega) | exact aq_yes (by omega)
     ·have hc:(⟨(n.1:Int)+1,r.1,s.1,t.1,q.1.1,q.1.2.1,q.1.2.2⟩:Ins)=candF w ((n.1:Int)+1):=by
       unfold candF;rw [r.2,s.2,t.2,q.2]
      have hu:U32 (candF w ((n.1:Int)+1)).imm:=im_u hw _
      have ho:0≤(candF w ((n.1:Int)+1)).op∧(candF w ((n.1:Int)+1)).op<60:=⟨by show 0≤(n.1:Int)+1;omega,by show (n.1:Int)+1<60;omega⟩
      rw [hc]
      refine Zk (c113 (candF w ((n.1:Int)+1)) hu) [] U U<|Zq<|Zm U<|Zgb U U (fun h164=>?_) (fun h164=>?_)
      refine Zg' U U h164<|Zv (ydw 0 (m:=7) U U (Enc.len ..))<|Zg' U U h164<|Zk (c114 ..) [] U U<|Zq<|Zc 3 [] U U<|Zn<|Zib U (fun h169=>?_) (fun h169=>?_)
      refine Zsr<|Zv (ydw 0 (m:=7) U U (Enc.len ..))<|Ze (esw 1 (m:=7) U U U U (Enc.len ..) (Enc.len ..) (Enc.allL ..))<|Zw0<|Zy U<|Znr<|Zr2<|Zr1<|Zr1 ?_
      refine Zr2<|Zr1<|Zre (.wh 1 (m:=7) U U (Enc.len ..) (.t U .n)) hS [] 2 ?_ U U U
      rotate_left
      refine Zsk<|Zxn<|Znx<|Zrg<|Zm U<|Zv (yadd U U (i64w U (by omega)))<|Zy U<|Znl ?_
      rotate_left
      refine Zu' U U h164 U<|Zu' U U h164 U<|Zu' U U h164 U<|Zu' U U h164 U<|Zv (ypf' U h164 U)<|Zn<|Zcf U<|Zsk<|Zxn ?_
      refine Znx<|Zrg<|Zm U<|Zv (yadd U U (i64w U (by omega)))<|Zy U<|Znl ?_
      rotate_left
      ·exact tq ((dec_s h8 n.2.2).trans (if_pos (show fitF w ((n.1:Int)+1)=true from h169)))
      ·refine Zlr ⟨n.1+1,by omega,(dec_s h8 n.2.2).trans (if_neg (by rw [show fitF w ((n.1:Int)+1)=false from h169];decide))⟩ (by show 59-(n.1+1)<59-n.1;omega) ⟨U,U,U,trivial⟩ [1] 1 U U
      ·refine Zlr ⟨n.1+1,by omega,(dec_s h8 n.2.2).trans (if_neg (by rw [fit_n h164];decide))⟩ (by show 59-(n.1+1)<59-n.1;omega) ⟨U,U,U,trivial⟩ [1] 1 U U
 ·exact tq (dec_e h8 n.2.2)
theorem bits_q {w:Int} (hi lo:Nat) (a b:Int) (ha:(2:Int) ^ lo=a) (hb:(2:Int) ^ (hi+1-lo)=b):bitsF w hi lo=w/a%b:=by subst ha hb;rfl
theorem opc_b (op:Int):0≤opcF op∧opcF op<128:=by
 unfold opcF
 repeat' split
 all_goals decide
theorem f3_b:∀ k:_root_.Fin 60,0≤f3L.getD k.1 0∧f3L.getD k.1 0<8:=by decide +kernel
theorem f7_c:∀ k:_root_.Fin 60,0≤f7F k.1∧f7F k.1<128:=by decide +kernel
theorem rd_eq {w:Int} (f:Int) (h:f≠98∧f≠115∧f≠102∧f≠101):rdF f w=(w/128%32).toNat:=by
 unfold rdF;rw [bits_q 11 7 128 32 rfl rfl,if_pos (by simp [h.1,h.2.1,h.2.2.1,h.2.2.2])]
theorem r1_eq {w:Int} (f:Int) (h:f≠117∧f≠106∧f≠102∧f≠101∧f≠99):r1F f w=(w/32768%32).toNat:=by
 unfold r1F;rw [bits_q 19 15 32768 32 rfl rfl,if_pos (by simp [h.1,h.2.1,h.2.2.1,h.2.2.2.1,h.2.2.2.2])]
theorem r2_eq {w:Int} (f:Int) (h:f=98∨f=115∨f=114∨f=97):r2F f w=(w/1048576%32).toNat:=by
 unfold r2F;rw [bits_q 24 20 1048576 32 rfl rfl,if_pos (by rcases h with rfl | rfl | rfl | rfl <;> rfl)]
theorem fld_b {w:Int} (a:Int):0≤((w/a%32).toNat:Int)∧((w/a%32).toNat:Int)≤31:=by
 have:=Int.emod_lt_of_pos (w/a) (b:=32) (by decide)
 omega
theorem rd_b {w:Int} (f:Int):(rdF f w:Int)≤31:=by
 unfold rdF;rw [bits_q 11 7 128 32 rfl rfl];split
 ·exact (fld_b 128).2
 ·decide
theorem r1_b {w:Int} (f:Int):(r1F f w:Int)≤31:=by
 unfold r1F;rw [bits_q 19 15 32768 32 rfl rfl];split
 ·exact (fld_b 32768).2
 ·decide
theorem r2_b {w:Int} (f:Int):(r2F f w:Int)≤31:=by
 unfold r2F;rw [bits_q 24 20 1048576 32 rfl rfl];split
 ·exact (fld_b 1048576).2
 ·decide
theorem bad_no {w k:Int} (h:formF k≠0):badF (formF k) (candF w k)=false:=by
 have h1:=rd_b (w:=w) (formF k)
 have h2:=r1_b (w:=w) (formF k)
 have h3:=r2_b (w:=w) (formF k)
 unfold badF candF
 simp only [Bool.or_eq_false_iff,decide_eq_false_iff_not]
 refine ⟨⟨⟨⟨⟨⟨⟨⟨⟨⟨h,by omega⟩,by omega⟩,by omega⟩,by omega⟩,by omega⟩,by omega⟩,?_⟩,?_⟩,?_⟩,?_⟩
 ·unfold rdF
  split
  ·rename_i hc;rw [hc];rfl
  ·simp
 ·unfold r1F
  split
  ·rename_i hc;rw [hc];rfl
  ·simp
 ·unfold r2F
  split
  ·rename_i hc;rw [hc];rfl
  ·simp
 ·unfold aqF
  by_cases h4:formF k=97∨formF k=113
  ·rcases h4 with h4 | h4 <;> rw [h4] <;> rfl
  ·simp only [if_neg h4,Bool.or_false,Bool.and_false]
theorem fit_of {w k:Int} {f:Int} (hf:formF k=f) (h0:f≠0) (hi:immOk f (candF w k)=true) {p:Prop} [Decidable p] (he:w32 (encF f (candF w k))=w↔p):fitF w k=decide p:=by
 subst hf
 show ((bif badF (formF k) (candF w k) then false else immOk (formF k) (candF w k)) && decide (w32 (encF (formF k) (candF w k))=w))=_
 rw [bad_no h0,cond_false,hi,Bool.true_and]
 exact decide_eq_decide.2 he
structure RowIs (w k:Int) (r:Int × Fm × Int):Prop where
 fit:fitF w k=decide (andF w r.2.1.mask=r.2.2)
 ins:candF w k=insF w r
theorem cell {i j:Ins} (h:i.op=j.op) (h1:i.rd=j.rd) (h2:i.rs1=j.rs1) (h3:i.rs2=j.rs2) (h4:i.imm=j.imm) (h5:i.aq=j.aq) (h6:i.rl=j.rl):i=j:=by
 cases i;cases j;simp only at h h1 h2 h3 h4 h5 h6;subst h h1 h2 h3 h4 h5 h6;rfl
theorem p_rd {w:Int} (hw:U32 w):partF w 11 7=w/128%32:=part_eq hw 11 7 128 32 (by decide) (by decide) rfl rfl rfl rfl
theorem p_r1 {w:Int} (hw:U32 w):partF w 19 15=w/32768%32:=part_eq hw 19 15 32768 32 (by decide) (by decide) rfl rfl rfl rfl
theorem p_r2 {w:Int} (hw:U32 w):partF w 24 20=w/1048576%32:=part_eq hw 24 20 1048576 32 (by decide) (by decide) rfl rfl rfl rfl
theorem p_aq {w:Int} (hw:U32 w):partF w 26 26=w/67108864%2:=part_eq hw 26 26 67108864 2 (by decide) (by decide) rfl rfl rfl rfl
theorem p_rl {w:Int} (hw:U32 w):partF w 25 25=w/33554432%2:=part_eq hw 25 25 33554432 2 (by decide) (by decide) rfl rfl rfl rfl
theorem r_u {w k bits:Int} (hw:U32 w) (hf:formF k=117) (hb:opcF k=bits):RowIs w k (k,fmU,bits):=by
 have hc:candF w k=⟨k,(w/128%32).toNat,0,0,w-w%4096,false,false⟩:=by
  unfold candF;rw [hf,rd_eq 117 (by decide)]
  refine cell rfl rfl rfl rfl ?_ rfl rfl
  show IntKind.u32.wrap (w-w.tmod 4096)=w-w%4096
  rw [u32m,tm_u hw];unfold U32 at hw;omega
 refine ⟨?_,?_⟩
 ·refine fit_of hf (by decide) (by rw [hc];show decide ((w-w%4096).tmod 4096=0)=true;rw [Int.tmod_eq_emod_of_nonneg (by unfold U32 at hw;omega)];exact dT (by omega)) ?_
  show _↔andF w fmU.mask=bits
  rw [hc,show fmU.mask=0x7f from rfl,mk_U hw,← hb,show encF 117 ⟨k,(w/128%32).toNat,0,0,w-w%4096,false,false⟩=opcF k+((w/128%32).toNat:Int)*128+0*32768+0*1048576+(w-w%4096) from rfl]
  have ho:=opc_b k
  generalize opcF k=o at *
  unfold U32 at hw
  rw [w32_eq]
  omega
 ·rw [hc]
  exact cell rfl (by show _=(partF w 11 7).toNat;rw [p_rd hw]) rfl rfl (tkU_eq hw).symm rfl rfl
theorem w4 {a b c d:Int} (ha:0≤a) (hb:0≤b) (hc:0≤c) (hd:0≤d) (h:a+b+c+d<4294967296):w32 (w32 (w32 (w32 a+w32 b)+w32 c)+w32 d)=a+b+c+d:=by
 rw [w32_of (x:=a) ⟨by omega,by omega⟩,w32_of (x:=b) ⟨by omega,by omega⟩,w32_of (x:=c) ⟨by omega,by omega⟩,w32_of (x:=d) ⟨by omega,by omega⟩,w32_of (x:=a+b) ⟨by omega,by omega⟩,w32_of (x:=a+b+c) ⟨by omega,by omega⟩,w32_of ⟨by omega,by omega⟩]
theorem sgn_lo {x m:Int} {k:Nat} (hm:(2:Int) ^ (k-1)=m) (h:x<m):sgnF x k=x:=by subst hm;exact if_neg (by omega)
theorem sgn_hi {x m:Int} {k:Nat} (hm:(2:Int) ^ (k-1)=m) (h:m≤x) (h2:x<m*2) (h3:m≤1048576):sgnF x k=x+(4294967296-m*2):=by
 subst hm;unfold sgnF;rw [if_pos h,w32_eq];omega
theorem jW_eq {w:Int} (hw:U32 w):jW w=tkJ w:=by
 rw [tkJ_eq hw]
 show sgnF (w32 (w32 (w32 (w32 (bitsF w 31 31*1048576)+w32 (bitsF w 19 12*4096))+w32 (bitsF w 20 20*2048))+w32 (bitsF w 30 21*2))) 21=_
 rw [bits_q 31 31 2147483648 2 rfl rfl,bits_q 19 12 4096 256 rfl rfl,bits_q 20 20 1048576 2 rfl rfl,bits_q 30 21 2097152 1024 rfl rfl]
 unfold U32 at hw
 rw [w4 (by omega) (by omega) (by omega) (by omega) (by omega)]
 by_cases h:w<2147483648
 ·rw [if_pos h,sgn_lo (m:=1048576) rfl (by omega)];omega
 ·rw [if_neg h,sgn_hi (m:=1048576) rfl (by omega) (by omega) (by omega)];omega
theorem bW_eq {w:Int} (hw:U32 w):bW w=tkB w:=by
 rw [tkB_eq hw]
 show sgnF (w32 (w32 (w32 (w32 (bitsF w 31 31*4096)+w32 (bitsF w 7 7*2048))+w32 (bitsF w 30 25*32))+w32 (bitsF w 11 8*2))) 13=_
 rw [bits_q 31 31 2147483648 2 rfl rfl,bits_q 7 7 128 2 rfl rfl,bits_q 30 25 33554432 64 rfl rfl,bits_q 11 8 256 16 rfl rfl]
 unfold U32 at hw
 rw [w4 (by omega) (by omega) (by omega) (by omega) (by omega)]
 by_cases h:w<2147483648
 ·rw [if_pos h,sgn_lo (m:=4096) rfl (by omega)];omega
 ·rw [if_neg h,sgn_hi (m:=4096) rfl (by omega) (by omega) (by omega)];omega
theorem sW_eq {w:Int} (hw:U32 w):sW w=tkS w:=by
 rw [tkS_eq hw]
 show sgnF (w32 (w32 (bitsF w 31 25*32)+bitsF w 11 7)) 12=_
 unfold U32 at hw
 rw [bits_q 31 25 33554432 128 rfl rfl,bits_q 11 7 128 32 rfl rfl,show w/33554432%128=w/33554432 by omega]
 rw [w32_of (x:=w/33554432*32) ⟨by omega,by omega⟩,w32_of ⟨by omega,by omega⟩]
 by_cases h:w<2147483648
 ·rw [if_pos h,sgn_lo (m:=2048) rfl (by omega)]
 ·rw [if_neg h,sgn_hi (m:=2048) rfl (by omega) (by omega) (by omega)];omega
theorem iW_eq {w:Int} (hw:U32 w):iW w=tkI w:=by
 rw [tkI_eq hw]
 show sgnF (bitsF w 31 20) 12=_
 rw [bits_q 31 20 1048576 4096 rfl rfl]
 unfold U32 at hw
 by_cases h:w<2147483648
 ·rw [if_pos h,sgn_lo (m:=2048) rfl (by omega)]
 ·rw [if_neg h,sgn_hi (m:=2048) rfl (by omega) (by omega) (by omega)];omega
theorem divs (w:Int):w/128/32=w/4096∧w/4096/8=w/32768∧w/32768/32=w/1048576∧w/1048576/32=w/33554432∧w/128/2=w/256∧w/256/16=w/4096∧w/33554432/64=w/2147483648∧w/4096/256=w/1048576∧w/1048576/2=w/2097152∧w/2097152/1024=w/2147483648:=by
 refine ⟨?_,?_,?_,?_,?_,?_,?_,?_,?_,?_⟩ <;> omega
theorem bitsJ {x p q r t:Int} (hp:0≤p∧p<2) (hq:0≤q∧q<256) (hr:0≤r∧r<2) (ht:0≤t∧t<1024) (hx:x=q*4096+r*2048+t*2+p*4293918720):x/1048576%2=p∧x/2%1024=t∧x/2048%2=r∧x/4096%256=q:=by
 refine ⟨by omega,by omega,by omega,by omega⟩
theorem bitsB {x p q r t:Int} (hp:0≤p∧p<2) (hq:0≤q∧q<64) (hr:0≤r∧r<16) (ht:0≤t∧t<2) (hx:x=t*2048+q*32+r*2+p*4294963200):x/4096%2=p∧x/32%64=q∧x/2%16=r∧x/2048%2=t:=by
 refine ⟨by omega,by omega,by omega,by omega⟩
theorem bitsS {x p q r:Int} (hq:0≤q∧q<128) (hr:0≤r∧r<32) (hx:x=q*32+r+p*4294963200):x/32%128=q∧x/1%32=r:=by
 refine ⟨by omega,by omega⟩
theorem bitsI {x p q:Int} (hq:0≤q∧q<4096) (hx:x=q+p*4294963200):x/1%4096=q:=by omega
theorem r_j {w k bits:Int} (hw:U32 w) (hf:formF k=106) (hb:opcF k=bits):RowIs w k (k,fmJ,bits):=by
 have hc:candF w k=⟨k,(w/128%32).toNat,0,0,tkJ w,false,false⟩:=by
  unfold candF;rw [hf,rd_eq 106 (by decide)]
  exact cell rfl rfl rfl rfl (jW_eq hw) rfl rfl
 have ht:=tkJ_eq hw
 have hu:U32 (tkJ w):=by rw [ht];unfold U32 at hw;split <;> exact ⟨by omega,by omega⟩
 have hs:=sgn_eq hu
 refine ⟨?_,?_⟩
 ·refine fit_of hf (by decide) (by
   rw [hc];show (decide ((sgn (tkJ w)).tmod 2=0) && decide (-1048576≤sgn (tkJ w)) && decide (sgn (tkJ w)≤1048574))=true
   have h2:=tmod_c (sgn (tkJ w)) 2
   unfold U32 at hw hu
   simp only [Bool.and_eq_true,decide_eq_true_eq]
   split at ht <;> split at hs <;> exact ⟨⟨by omega,by omega⟩,by omega⟩) ?_
  show _↔andF w fmJ.mask=bits
  rw [hc,show fmJ.mask=0x7f from rfl,mk_U hw,← hb,show encF 106 ⟨k,(w/128%32).toNat,0,0,tkJ w,false,false⟩=opcF k+((w/128%32).toNat:Int)*128+0*32768+0*1048576+(bitsF (tkJ w) 20 20*2147483648+bitsF (tkJ w) 10 1*2097152+bitsF (tkJ w) 11 11*1048576+bitsF (tkJ w) 19 12*4096) from rfl,
   bits_q 20 20 1048576 2 rfl rfl,bits_q 10 1 2 1024 rfl rfl,bits_q 11 11 2048 2 rfl rfl,bits_q 19 12 4096 256 rfl rfl]
  have ho:=opc_b k
  generalize opcF k=o at *
  unfold U32 at hw hu
  generalize tkJ w=x at *
  obtain ⟨e1,e2,e3,e4⟩:=bitsJ (x:=x) (p:=w/2147483648) (q:=w/4096%256) (r:=w/1048576%2) (t:=w/2097152%1024) (by omega) (by omega) (by omega) (by omega) (by split at ht <;> omega)
  rw [e1,e2,e3,e4]
  clear e1 e2 e3 e4 ht hs hu hc
  have hd:=divs w
  rw [w32_of ⟨by omega,by omega⟩]
  omega
 ·rw [hc]
  exact cell rfl (by show _=(partF w 11 7).toNat;rw [p_rd hw]) rfl rfl rfl rfl rfl
theorem r_b {w k bits:Int} (hw:U32 w) (hk:0≤k∧k<60) (hf:formF k=98) (hb:opcF k+f3L.getD k.toNat 0*4096=bits):RowIs w k (k,fmB,bits):=by
 have hc:candF w k=⟨k,0,(w/32768%32).toNat,(w/1048576%32).toNat,tkB w,false,false⟩:=by
  unfold candF;rw [hf,r1_eq 98 (by decide),r2_eq 98 (by decide)]
  exact cell rfl rfl rfl rfl (bW_eq hw) rfl rfl
 have ht:=tkB_eq hw
 have hu:U32 (tkB w):=by rw [ht];unfold U32 at hw;split <;> exact ⟨by omega,by omega⟩
 have hs:=sgn_eq hu
 refine ⟨?_,?_⟩
 ·refine fit_of hf (by decide) (by
   rw [hc];show (decide ((sgn (tkB w)).tmod 2=0) && decide (-4096≤sgn (tkB w)) && decide (sgn (tkB w)≤4094))=true
   have h2:=tmod_c (sgn (tkB w)) 2
   unfold U32 at hw hu
   simp only [Bool.and_eq_true,decide_eq_true_eq]
   split at ht <;> split at hs <;> exact ⟨⟨by omega,by omega⟩,by omega⟩) ?_
  show _↔andF w fmB.mask=bits
  rw [hc,show fmB.mask=0x707f from rfl,mk_I hw,← hb,show encF 98 ⟨k,0,(w/32768%32).toNat,(w/1048576%32).toNat,tkB w,false,false⟩=opcF k+f3L.getD k.toNat 0*4096+0*128+((w/32768%32).toNat:Int)*32768+((w/1048576%32).toNat:Int)*1048576+(bitsF (tkB w) 12 12*2147483648+bitsF (tkB w) 10 5*33554432+bitsF (tkB w) 4 1*256+bitsF (tkB w) 11 11*128) from rfl,
   bits_q 12 12 4096 2 rfl rfl,bits_q 10 5 32 64 rfl rfl,bits_q 4 1 2 16 rfl rfl,bits_q 11 11 2048 2 rfl rfl]
  have ho:=opc_b k
  have h3:=f3_b ⟨k.toNat,by omega⟩
  simp only at h3
  generalize opcF k=o at *
  generalize f3L.getD k.toNat 0=f at *
  unfold U32 at hw hu
  generalize tkB w=x at *
  obtain ⟨e1,e2,e3,e4⟩:=bitsB (x:=x) (p:=w/2147483648) (q:=w/33554432%64) (r:=w/256%16) (t:=w/128%2) (by omega) (by omega) (by omega) (by omega) (by split at ht <;> omega)
  rw [e1,e2,e3,e4]
  clear e1 e2 e3 e4 ht hs hu hc
  have hd:=divs w
  rw [w32_of ⟨by omega,by omega⟩]
  omega
 ·rw [hc]
  exact cell rfl rfl (by show _=(partF w 19 15).toNat;rw [p_r1 hw]) (by show _=(partF w 24 20).toNat;rw [p_r2 hw]) rfl rfl rfl
theorem r_s {w k bits:Int} (hw:U32 w) (hk:0≤k∧k<60) (hf:formF k=115) (hb:opcF k+f3L.getD k.toNat 0*4096=bits):RowIs w k (k,fmS,bits):=by
 have hc:candF w k=⟨k,0,(w/32768%32).toNat,(w/1048576%32).toNat,tkS w,false,false⟩:=by
  unfold candF;rw [hf,r1_eq 115 (by decide),r2_eq 115 (by decide)]
  exact cell rfl rfl rfl rfl (sW_eq hw) rfl rfl
 have ht:=tkS_eq hw
 rw [show w/33554432%128=w/33554432 by unfold U32 at hw;omega] at ht
 have hu:U32 (tkS w):=by rw [ht];unfold U32 at hw;split <;> exact ⟨by omega,by omega⟩
 have hs:=sgn_eq hu
 refine ⟨?_,?_⟩
 ·refine fit_of hf (by decide) (by
   rw [hc];show (decide (-2048≤sgn (tkS w)) && decide (sgn (tkS w)≤2047))=true
   unfold U32 at hw hu
   simp only [Bool.and_eq_true,decide_eq_true_eq]
   split at ht <;> split at hs <;> exact ⟨by omega,by omega⟩) ?_
  show _↔andF w fmS.mask=bits
  rw [hc,show fmS.mask=0x707f from rfl,mk_I hw,← hb,show encF 115 ⟨k,0,(w/32768%32).toNat,(w/1048576%32).toNat,tkS w,false,false⟩=opcF k+f3L.getD k.toNat 0*4096+0*128+((w/32768%32).toNat:Int)*32768+((w/1048576%32).toNat:Int)*1048576+(bitsF (tkS w) 11 5*33554432+bitsF (tkS w) 4 0*128) from rfl,
   bits_q 11 5 32 128 rfl rfl,bits_q 4 0 1 32 rfl rfl]
  have ho:=opc_b k
  have h3:=f3_b ⟨k.toNat,by omega⟩
  simp only at h3
  generalize opcF k=o at *
  generalize f3L.getD k.toNat 0=f at *
  unfold U32 at hw hu
  generalize tkS w=x at *
  obtain ⟨e1,e2⟩:=bitsS (x:=x) (p:=w/2147483648) (q:=w/33554432%128) (r:=w/128%32) (by omega) (by omega) (by split at ht <;> omega)
  rw [e1,e2]
  clear e1 e2 ht hs hu hc
  have hd:=divs w
  rw [w32_of ⟨by omega,by omega⟩]
  omega
 ·rw [hc]
  exact cell rfl rfl (by show _=(partF w 19 15).toNat;rw [p_r1 hw]) (by show _=(partF w 24 20).toNat;rw [p_r2 hw]) rfl rfl rfl
theorem r_i {w k bits:Int} (hw:U32 w) (hk:0≤k∧k<60) (hf:formF k=105∨formF k=108) (hb:opcF k+f3L.getD k.toNat 0*4096=bits):RowIs w k (k,fmI,bits):=by
 have hc:candF w k=⟨k,(w/128%32).toNat,(w/32768%32).toNat,0,tkI w,false,false⟩:=by
  unfold candF
  rcases hf with hf | hf <;> rw [hf,rd_eq _ (by decide),r1_eq _ (by decide)] <;> exact cell rfl rfl rfl rfl (iW_eq hw) rfl rfl
 have ht:=tkI_eq hw
 have hu:U32 (tkI w):=by rw [ht];unfold U32 at hw;split <;> exact ⟨by omega,by omega⟩
 have hs:=sgn_eq hu
 have hm:(decide (-2048≤sgn (tkI w)) && decide (sgn (tkI w)≤2047))=true:=by
  unfold U32 at hw hu
  simp only [Bool.and_eq_true,decide_eq_true_eq]
  split at ht <;> split at hs <;> exact ⟨by omega,by omega⟩
 have he:(w32 (opcF k+f3L.getD k.toNat 0*4096+((w/128%32).toNat:Int)*128+((w/32768%32).toNat:Int)*32768+0*1048576+bitsF (tkI w) 11 0*1048576)=w)↔andF w fmI.mask=bits:=by
  rw [show fmI.mask=0x707f from rfl,mk_I hw,← hb,bits_q 11 0 1 4096 rfl rfl]
  have ho:=opc_b k
  have h3:=f3_b ⟨k.toNat,by omega⟩
  simp only at h3
  generalize opcF k=o at *
  generalize f3L.getD k.toNat 0=f at *
  unfold U32 at hw hu
  generalize tkI w=x at *
  have e1:=bitsI (x:=x) (p:=w/2147483648) (q:=w/1048576%4096) (by omega) (by split at ht <;> omega)
  rw [e1,w32_of ⟨by omega,by omega⟩]
  omega
 refine ⟨?_,?_⟩
 ·rcases hf with hf | hf
  ·exact fit_of hf (by decide) (by rw [hc];exact hm) (by rw [hc];exact he)
  ·exact fit_of hf (by decide) (by rw [hc];exact hm) (by rw [hc];exact he)
 ·rw [hc]
  exact cell rfl (by show _=(partF w 11 7).toNat;rw [p_rd hw]) (by show _=(partF w 19 15).toNat;rw [p_r1 hw]) rfl rfl rfl rfl
theorem parts {w:Int} (hw:U32 w):∃ q d f a b s:Int,w%128=q∧w/128%32=d∧w/4096%8=f∧w/32768%32=a∧w/1048576%32=b∧w/33554432%128=s ∧
  w=q+d*128+f*4096+a*32768+b*1048576+s*33554432∧(0≤q∧q<128)∧(0≤d∧d<32)∧(0≤f∧f<8)∧(0≤a∧a<32)∧(0≤b∧b<32)∧(0≤s∧s<128):=by
 unfold U32 at hw
 exact ⟨_,_,_,_,_,_,rfl,rfl,rfl,rfl,rfl,rfl,by omega,by omega,by omega,by omega,by omega,by omega,by omega⟩
theorem parts2 {w s:Int} (hw:U32 w) (h:w/33554432%128=s):∃ x y z:Int,w/134217728%32=x∧w/67108864%2=y∧w/33554432%2=z∧s=x*4+y*2+z∧(0≤x∧x<32)∧(0≤y∧y<2)∧(0≤z∧z<2):=by
 unfold U32 at hw
 exact ⟨_,_,_,rfl,rfl,rfl,by omega,by omega,by omega,by omega⟩
theorem r_h {w k bits:Int} (hw:U32 w) (hk:0≤k∧k<60) (hf:formF k=104) (hb:opcF k+f3L.getD k.toNat 0*4096+f7F k.toNat*33554432=bits):RowIs w k (k,fmShift,bits):=by
 have hc:candF w k=⟨k,(w/128%32).toNat,(w/32768%32).toNat,0,w/1048576%32,false,false⟩:=by
  unfold candF;rw [hf,rd_eq 104 (by decide),r1_eq 104 (by decide)]
  exact cell rfl rfl rfl rfl (bits_q 24 20 1048576 32 rfl rfl) rfl rfl
 have hu:U32 (w/1048576%32):=⟨by omega,by omega⟩
 have hs:=sgn_eq hu
 refine ⟨?_,?_⟩
 ·refine fit_of hf (by decide) (by
   rw [hc];show (decide (0≤sgn (w/1048576%32)) && decide (sgn (w/1048576%32)≤31))=true
   simp only [Bool.and_eq_true,decide_eq_true_eq]
   split at hs <;> exact ⟨by omega,by omega⟩) ?_
  show _↔andF w fmShift.mask=bits
  rw [hc,show fmShift.mask=0xfe00707f from rfl,mk_R hw,← hb,show encF 104 ⟨k,(w/128%32).toNat,(w/32768%32).toNat,0,w/1048576%32,false,false⟩=opcF k+f3L.getD k.toNat 0*4096+((w/128%32).toNat:Int)*128+((w/32768%32).toNat:Int)*32768+0*1048576+(f7F k.toNat*33554432+w/1048576%32*1048576) from rfl]
  have ho:=opc_b k
  have h3:=f3_b ⟨k.toNat,by omega⟩
  have h7:=f7_c ⟨k.toNat,by omega⟩
  simp only at h3 h7
  generalize opcF k=o at *
  generalize f3L.getD k.toNat 0=f at *
  generalize f7F k.toNat=g at *
  obtain ⟨q,d,f',a,b,s,e1,e2,e3,e4,e5,e6,hsum,b1,b2,b3,b4,b5,b6⟩:=parts hw
  rw [e1,e2,e3,e4,e5,e6,show (d.toNat:Int)=d by omega,show (a.toNat:Int)=a by omega]
  clear e1 e2 e3 e4 e5 e6 hw hc hu hs
  rw [w32_of ⟨by omega,by omega⟩]
  constructor <;> intro hh <;> omega
 ·rw [hc]
  exact cell rfl (by show _=(partF w 11 7).toNat;rw [p_rd hw]) (by show _=(partF w 19 15).toNat;rw [p_r1 hw]) rfl (by show _=partF w 24 20;rw [p_r2 hw]) rfl rfl
theorem r_r {w k bits:Int} (hw:U32 w) (hk:0≤k∧k<60) (hf:formF k=114) (hb:opcF k+f3L.getD k.toNat 0*4096+f7F k.toNat*33554432=bits):RowIs w k (k,fmR,bits):=by
 have hc:candF w k=⟨k,(w/128%32).toNat,(w/32768%32).toNat,(w/1048576%32).toNat,0,false,false⟩:=by
  unfold candF;rw [hf,rd_eq 114 (by decide),r1_eq 114 (by decide),r2_eq 114 (by decide)]
  rfl
 refine ⟨?_,?_⟩
 ·refine fit_of hf (by decide) (by rw [hc];rfl) ?_
  show _↔andF w fmR.mask=bits
  rw [hc,show fmR.mask=0xfe00707f from rfl,mk_R hw,← hb,show encF 114 ⟨k,(w/128%32).toNat,(w/32768%32).toNat,(w/1048576%32).toNat,0,false,false⟩=opcF k+f3L.getD k.toNat 0*4096+((w/128%32).toNat:Int)*128+((w/32768%32).toNat:Int)*32768+((w/1048576%32).toNat:Int)*1048576+(0+f7F k.toNat*33554432) from rfl]
  have ho:=opc_b k
  have h3:=f3_b ⟨k.toNat,by omega⟩
  have h7:=f7_c ⟨k.toNat,by omega⟩
  simp only at h3 h7
  generalize opcF k=o at *
  generalize f3L.getD k.toNat 0=f at *
  generalize f7F k.toNat=g at *
  obtain ⟨q,d,f',a,b,s,e1,e2,e3,e4,e5,e6,hsum,b1,b2,b3,b4,b5,b6⟩:=parts hw
  rw [e1,e2,e3,e4,e5,e6,show (d.toNat:Int)=d by omega,show (a.toNat:Int)=a by omega,show (b.toNat:Int)=b by omega]
  clear e1 e2 e3 e4 e5 e6 hw hc
  rw [w32_of ⟨by omega,by omega⟩]
  constructor <;> intro hh <;> omega
 ·rw [hc]
  exact cell rfl (by show _=(partF w 11 7).toNat;rw [p_rd hw]) (by show _=(partF w 19 15).toNat;rw [p_r1 hw]) (by show _=(partF w 24 20).toNat;rw [p_r2 hw]) rfl rfl rfl
theorem r_f {w k bits:Int} (hw:U32 w) (hf:formF k=102) (hb:opcF k=bits) (h0:f3L.getD k.toNat 0=0):RowIs w k (k,fmFence,bits):=by
 have hc:candF w k=⟨k,0,0,0,w/1048576%256,false,false⟩:=by
  unfold candF;rw [hf]
  exact cell rfl rfl rfl rfl (bits_q 27 20 1048576 256 rfl rfl) rfl rfl
 have hu:U32 (w/1048576%256):=⟨by omega,by omega⟩
 have hs:=sgn_eq hu
 refine ⟨?_,?_⟩
 ·refine fit_of hf (by decide) (by
   rw [hc];show (decide (0≤sgn (w/1048576%256)) && decide (sgn (w/1048576%256)≤255))=true
   simp only [Bool.and_eq_true,decide_eq_true_eq]
   split at hs <;> exact ⟨by omega,by omega⟩) ?_
  show _↔andF w fmFence.mask=bits
  rw [hc,show fmFence.mask=0xf00fffff from rfl,mk_F hw,← hb,show encF 102 ⟨k,0,0,0,w/1048576%256,false,false⟩=opcF k+f3L.getD k.toNat 0*4096+0*128+0*32768+0*1048576+w/1048576%256*1048576 from rfl,h0]
  have ho:=opc_b k
  generalize opcF k=o at *
  unfold U32 at hw
  rw [w32_of ⟨by omega,by omega⟩]
  omega
 ·rw [hc]
  exact cell rfl rfl rfl rfl (part_eq hw 27 20 1048576 256 (by decide) (by decide) rfl rfl rfl rfl).symm rfl rfl
theorem r_e {w k bits:Int} (hw:U32 w) (hf:formF k=101) (hb:opcF k=bits) (h0:f3L.getD k.toNat 0=0) (h7:f7F k.toNat=0):RowIs w k (k,fmAll,bits):=by
 have hc:candF w k=⟨k,0,0,0,0,false,false⟩:=by unfold candF;rw [hf];rfl
 refine ⟨?_,?_⟩
 ·refine fit_of hf (by decide) (by rw [hc];rfl) ?_
  show _↔andF w fmAll.mask=bits
  rw [hc,show fmAll.mask=0xffffffff from rfl,mk_all hw,← hb,show encF 101 ⟨k,0,0,0,0,false,false⟩=opcF k+f3L.getD k.toNat 0*4096+0*128+0*32768+0*1048576+(0+f7F k.toNat*33554432) from rfl,h0,h7]
  have ho:=opc_b k
  generalize opcF k=o at *
  rw [w32_of ⟨by omega,by omega⟩]
  omega
 ·rw [hc];rfl
theorem bifb {x:Int} {p:Prop} [Decidable p]:(bif decide p then x else 0)=if p then x else 0:=by by_cases h:p <;> simp [h]
theorem aq_e {w f:Int} (hf:f=97∨f=113):aqF f w 26=decide (w/67108864%2=1)∧aqF f w 25=decide (w/33554432%2=1):=by
 unfold aqF;rw [if_pos hf,if_pos hf,bits_q 26 26 67108864 2 rfl rfl,bits_q 25 25 33554432 2 rfl rfl];exact ⟨rfl,rfl⟩
theorem r_q {w k bits:Int} (hw:U32 w) (hk:0≤k∧k<60) (hf:formF k=113) (g:Int) (hg:f7F k.toNat=4*g) (hb:opcF k+f3L.getD k.toNat 0*4096+g*134217728=bits):RowIs w k (k,fmLr,bits):=by
 have hc:candF w k=⟨k,(w/128%32).toNat,(w/32768%32).toNat,0,0,decide (w/67108864%2=1),decide (w/33554432%2=1)⟩:=by
  unfold candF;rw [hf,rd_eq 113 (by decide),r1_eq 113 (by decide),(aq_e (w:=w) (.inr rfl)).1,(aq_e (w:=w) (.inr rfl)).2]
  rfl
 refine ⟨?_,?_⟩
 ·refine fit_of hf (by decide) (by rw [hc];rfl) ?_
  show _↔andF w fmLr.mask=bits
  rw [hc,show fmLr.mask=0xf9f0707f from rfl,mk_L hw,← hb,show encF 113 ⟨k,(w/128%32).toNat,(w/32768%32).toNat,0,0,decide (w/67108864%2=1),decide (w/33554432%2=1)⟩=opcF k+f3L.getD k.toNat 0*4096+((w/128%32).toNat:Int)*128+((w/32768%32).toNat:Int)*32768+0*1048576+((bif decide (w/67108864%2=1) then 67108864 else 0)+(bif decide (w/33554432%2=1) then 33554432 else 0)+f7F k.toNat*33554432) from rfl,bifb,bifb]
  have ho:=opc_b k
  have h3:=f3_b ⟨k.toNat,by omega⟩
  have h7:=f7_c ⟨k.toNat,by omega⟩
  simp only at h3 h7
  rw [hg] at h7 ⊢
  generalize opcF k=o at *
  generalize f3L.getD k.toNat 0=f at *
  have e1:(if w/67108864%2=1 then (67108864:Int) else 0)=w/67108864%2*67108864:=by split <;> omega
  have e2:(if w/33554432%2=1 then (33554432:Int) else 0)=w/33554432%2*33554432:=by split <;> omega
  rw [e1,e2]
  clear e1 e2 hc
  obtain ⟨q,d,f',a,b,s,e1,e2,e3,e4,e5,e6,hsum,b1,b2,b3,b4,b5,b6⟩:=parts hw
  obtain ⟨x,y,z,e7,e8,e9,hs,b7,b8,b9⟩:=parts2 hw e6
  rw [e1,e2,e3,e4,e5,e7,e8,e9,show (d.toNat:Int)=d by omega,show (a.toNat:Int)=a by omega]
  clear e1 e2 e3 e4 e5 e6 e7 e8 e9 hw
  rw [w32_of ⟨by omega,by omega⟩]
  constructor <;> intro hh <;> omega
 ·rw [hc]
  exact cell rfl (by show _=(partF w 11 7).toNat;rw [p_rd hw]) (by show _=(partF w 19 15).toNat;rw [p_r1 hw]) rfl rfl (by show _=decide (partF w 26 26=1);rw [p_aq hw]) (by show _=decide (partF w 25 25=1);rw [p_rl hw])
theorem r_a {w k bits:Int} (hw:U32 w) (hk:0≤k∧k<60) (hf:formF k=97) (g:Int) (hg:f7F k.toNat=4*g) (hb:opcF k+f3L.getD k.toNat 0*4096+g*134217728=bits):RowIs w k (k,fmA,bits):=by
 have hc:candF w k=⟨k,(w/128%32).toNat,(w/32768%32).toNat,(w/1048576%32).toNat,0,decide (w/67108864%2=1),decide (w/33554432%2=1)⟩:=by
  unfold candF;rw [hf,rd_eq 97 (by decide),r1_eq 97 (by decide),r2_eq 97 (by decide),(aq_e (w:=w) (.inl rfl)).1,(aq_e (w:=w) (.inl rfl)).2]
  rfl
 refine ⟨?_,?_⟩
 ·refine fit_of hf (by decide) (by rw [hc];rfl) ?_
  show _↔andF w fmA.mask=bits
  rw [hc,show fmA.mask=0xf800707f from rfl,mk_A hw,← hb,show encF 97 ⟨k,(w/128%32).toNat,(w/32768%32).toNat,(w/1048576%32).toNat,0,decide (w/67108864%2=1),decide (w/33554432%2=1)⟩=opcF k+f3L.getD k.toNat 0*4096+((w/128%32).toNat:Int)*128+((w/32768%32).toNat:Int)*32768+((w/1048576%32).toNat:Int)*1048576+((bif decide (w/67108864%2=1) then 67108864 else 0)+(bif decide (w/33554432%2=1) then 33554432 else 0)+f7F k.toNat*33554432) from rfl,bifb,bifb]
  have ho:=opc_b k
  have h3:=f3_b ⟨k.toNat,by omega⟩
  have h7:=f7_c ⟨k.toNat,by omega⟩
  simp only at h3 h7
  rw [hg] at h7 ⊢
  generalize opcF k=o at *
  generalize f3L.getD k.toNat 0=f at *
  have e1:(if w/67108864%2=1 then (67108864:Int) else 0)=w/67108864%2*67108864:=by split <;> omega
  have e2:(if w/33554432%2=1 then (33554432:Int) else 0)=w/33554432%2*33554432:=by split <;> omega
  rw [e1,e2]
  clear e1 e2 hc
  obtain ⟨q,d,f',a,b,s,e1,e2,e3,e4,e5,e6,hsum,b1,b2,b3,b4,b5,b6⟩:=parts hw
  obtain ⟨x,y,z,e7,e8,e9,hs,b7,b8,b9⟩:=parts2 hw e6
  rw [e1,e2,e3,e4,e5,e7,e8,e9,show (d.toNat:Int)=d by omega,show (a.toNat:Int)=a by omega,show (b.toNat:Int)=b by omega]
  clear e1 e2 e3 e4 e5 e6 e7 e8 e9 hw
  rw [w32_of ⟨by omega,by omega⟩]
  constructor <;> intro hh <;> omega
 ·rw [hc]
  exact cell rfl (by show _=(partF w 11 7).toNat;rw [p_rd hw]) (by show _=(partF w 19 15).toNat;rw [p_r1 hw]) (by show _=(partF w 24 20).toNat;rw [p_r2 hw]) rfl (by show _=decide (partF w 26 26=1);rw [p_aq hw]) (by show _=decide (partF w 25 25=1);rw [p_rl hw])
theorem r_c {w k bits:Int} (hw:U32 w) (hk:0≤k∧k<60) (hf:formF k=99) (hb:opcF k+f3L.getD k.toNat 0*4096+4047503360=bits):RowIs w k (k,fmCsr,bits):=by
 have hc:candF w k=⟨k,(w/128%32).toNat,0,0,0,false,false⟩:=by
  unfold candF;rw [hf,rd_eq 99 (by decide)];rfl
 refine ⟨?_,?_⟩
 ·refine fit_of hf (by decide) (by rw [hc];rfl) ?_
  show _↔andF w fmCsr.mask=bits
  rw [hc,show fmCsr.mask=0xfffff07f from rfl,mk_C hw,← hb,show encF 99 ⟨k,(w/128%32).toNat,0,0,0,false,false⟩=opcF k+f3L.getD k.toNat 0*4096+((w/128%32).toNat:Int)*128+0*32768+0*1048576+4047503360 from rfl]
  have ho:=opc_b k
  have h3:=f3_b ⟨k.toNat,by omega⟩
  simp only at h3
  generalize opcF k=o at *
  generalize f3L.getD k.toNat 0=f at *
  unfold U32 at hw
  rw [w32_of ⟨by omega,by omega⟩]
  omega
 ·rw [hc]
  exact cell rfl (by show _=(partF w 11 7).toNat;rw [p_rd hw]) rfl rfl rfl rfl rfl
theorem row_is {w:Int} (hw:U32 w) {r:Int × Fm × Int} (h:r∈rowT):RowIs w r.1 r:=by
 simp only [rowT,List.mem_cons,List.not_mem_nil,or_false] at h
 rcases h with rfl | rfl | rfl | rfl | rfl | rfl | rfl | rfl | rfl | rfl | rfl | rfl | rfl | rfl | rfl | rfl | rfl | rfl | rfl | rfl | rfl | rfl | rfl | rfl | rfl | rfl | rfl | rfl | rfl | rfl | rfl | rfl | rfl | rfl | rfl | rfl | rfl | rfl | rfl | rfl | rfl | rfl | rfl | rfl | rfl | rfl | rfl | rfl | rfl | rfl | rfl | rfl | rfl | rfl | rfl | rfl | rfl | rfl | rfl
 all_goals dsimp only
 all_goals first
  | exact r_u hw (by unfold formF;decide) (by unfold opcF;decide)
  | exact r_j hw (by unfold formF;decide) (by unfold opcF;decide)
  | exact r_i hw (by decide) (by unfold formF;decide) (by unfold opcF;decide)
  | exact r_b hw (by decide) (by unfold formF;decide) (by unfold opcF;decide)
  | exact r_s hw (by decide) (by unfold formF;decide) (by unfold opcF;decide)
  | exact r_h hw (by decide) (by unfold formF;decide) (by unfold opcF;decide)
  | exact r_r hw (by decide) (by unfold formF;decide) (by unfold opcF;decide)
  | exact r_f hw (by unfold formF;decide) (by unfold opcF;decide) rfl
  | exact r_e hw (by unfold formF;decide) (by unfold opcF;decide) rfl rfl
  | exact r_q hw (by decide) (by unfold formF;decide) _ rfl (by unfold opcF;decide)
  | exact r_a hw (by decide) (by unfold formF;decide) _ rfl (by unfold opcF;decide)
  | exact r_c hw (by decide) (by unfold formF;decide) (by unfold opcF;decide)
theorem row_nth:∀ i:_root_.Fin 59,(rowT.map Prod.fst)[i.1]? = some ((i.1:Int)+1):=by decide
theorem decR_drop {w:Int} (hw:U32 w):∀ n:Nat,n≤59→decR w n (60-(n:Int))=match (rowT.drop (59-n)).find? (fun r=>decide (andF w r.2.1.mask=r.2.2)) with | some r=>(insF w r,true) | none=>(ins0,false)
 | 0,_=>rfl
 | n+1,hn=>by
  have hl:59-(n+1)<rowT.length:=by show _<59;omega
  have h1:=row_nth ⟨59-(n+1),by omega⟩
  rw [List.getElem?_map,List.getElem?_eq_getElem hl] at h1
  have h2:(rowT[59-(n+1)]).1=60-((n+1:Nat):Int):=by
   have:=Option.some.inj h1
   simp only at this
   rw [this];omega
  have hr:=row_is hw (List.getElem_mem hl)
  rw [h2] at hr
  rw [List.drop_eq_getElem_cons hl,List.find?_cons,← hr.fit]
  show (if fitF w (60-((n+1:Nat):Int))=true then (candF w (60-((n+1:Nat):Int)),true) else decR w n (60-((n+1:Nat):Int)+1))=_
  cases hq:fitF w (60-((n+1:Nat):Int)) with
  | true=>rw [if_pos rfl];exact congrArg (·,true) hr.ins
  | false=>
   rw [if_neg (by decide),show (60-((n+1:Nat):Int)+1)=60-(n:Int) by omega,decR_drop hw n (by omega),show 59-(n+1)+1=59-n by omega]
theorem dec_eq {w:Int} (hw:U32 w):decR w 59 1=decF w:=decR_drop hw 59 (by omega)
theorem c65 (w:Int) (hw:U32 w:=by assumption):Sp Tryz.prog 65 [.int .u32 w] [] fun K=>K (.returned (.tuple #[.agg (insE.arr (decF w).1),.bool (decF w).2])) []:=by rw [← dec_eq hw];exact d65 w hw
theorem sgn_s {a:Int}:sgn a=s32 a:=by
 have:=s32m a
 exact i64i ⟨by omega,by omega⟩
theorem c86 (h:Hrt) (i:Ins) (ok:h.Ok:=by assumption) (hi:U32 i.imm:=by assumption) (h1:i.rs1<32:=by first | assumption | omega) (h2:i.rs2<32:=by first | assumption | omega) (hz:48≤i.op→i.op≤58→i.imm=0:=by assumption):Sp Tryz.prog 86 [.agg (hrtE.arr h),.agg (insE.arr i)] [] fun K=>K (.returned (.agg (accE.arr (accF h i)))) []:=by
 have hr1:=ok.reg i.rs1
 have hr2:=ok.reg i.rs2
 have hza:48≤i.op→i.op≤58→w32 (h.reg i.rs1+i.imm)=h.reg i.rs1:=fun a b=>by rw [hz a b,Int.add_zero];exact w32_of hr1
 refine Zen Tryz.func86 U U U fun e X Φ hS=>Zsr<|Ze (ebxE U) fun b2=>Zw<|Ze (ebxE U) fun b3=>Zw<|Ze (eal z44) fun b4=>Zw<|Zns<|Za 2 [0,1] U U ?_
 refine Zy U<|Znq<|Zhd [] U U<|Zht 0 U (yf 2 U)<|Zht 1 U (yd 1 U U U)<|Zht 2 U (yf 2 U)<|Zht 3 U (yai Tryz.underlying57 U U (by omega))<|Zht 4 U (yd 2 U U (nt_reg _ _ (by omega))) ?_
 refine Zht 5 U (yf 4 U)<|Zht 6 U (yd 1 U U U)<|ZH1 7<|Zok (c131 ..) [] U U U<|Zqh 0 U<|Zht 8 U (ya U)<|ZHn<|Zxs<|Za 2 [3,1] U U ?_
 refine Zv (yf 2 U)<|Zv (yai Tryz.underlying57 U U (by omega))<|Zv (yd 2 U U (nt_reg _ _ (by omega)))<|Zy U<|Znq<|Zbl<|Zsr<|Zm U ?_
 refine Zb 2 U<|Zn<|Zif U (fun h23=>?_) (fun h23=>?_)
 refine Zsr<|Za 2 [4,1] U U<|Zv (yb l44 U)<|Ze (esw 0 (m:=7) U U U U U U U)<|Zw0<|Znr<|Zr2<|Zr1 ?_
 refine Zre (.wh 0 (m:=7) U U U .n) hS [] 3 ?_ U U U
 rotate_left
 refine Zsr<|Zb 3 U<|Zc 4 [] U U<|Zn<|Zib U (fun h29=>?_) (fun h29=>?_)
 refine Zsr<|Zb 2 U<|Zk (c132 ..) [] U U<|Zq<|Zv (yb l44 U)<|Ze (esw 0 (m:=7) U U U U U U U)<|Zw0<|Znr ?_
 refine Zr2<|Zr1<|Zre (.wh 0 (m:=7) U U U .n) hS [] 3 ?_ U U U
 rotate_left
 refine Zsr<|Zb 3 U<|Zc 4 [] U U<|Zn<|Zib U (fun h40=>?_) (fun h40=>?_)
 refine Zsr<|Zb 2 U<|Zk (c132 ..) [] U U<|Zq<|Zb 2 U<|Zk (c132 ..) [] U U<|Zq<|Zk (c133 ..) [] U U ?_
 refine Zq<|Zv (yb l44 U)<|Ze (esw 0 (m:=7) U U U U U U U)<|Zw0<|Znr<|Zr2<|Zr1<|Zre (.wh 0 (m:=7) U U U .n) hS [] 3 ?_ U U U
 rotate_left
 refine Zsr<|Zb 3 U<|Zn<|Zif U (fun h55=>?_) (fun h55=>?_)
 refine Zsr<|Za 5 [5,1,6,1] U U<|Zv (yb l44 U)<|Ze (esw 0 (m:=7) U U U U U U U)<|Zw0<|Zn ?_
 refine Zrt<|Zr2<|Zr1<|Zre (.wh 0 (m:=7) U U U .n) hS [] 3 ?_ U U U
 rotate_left
 refine Zsr<|Zb 3 U<|Zn<|Zif U (fun h64=>?_) (fun h64=>?_)
 refine Zsr<|Za 6 [5,1,6,1] U U<|Zv (yb l44 U)<|Ze (esw 0 (m:=7) U U U U U U U)<|Zw0<|Znl ?_
 refine Zxr<|Zr2<|Zr1<|Zre (.wh 0 (m:=7) U U U .n) hS [] 3 ?_ U U U
 rotate_left
 refine Zsr<|Zb 3 U<|Zc 4 [] U U<|Zn<|Zib U (fun h74=>?_) (fun h74=>?_)
 refine Zsr<|Za 8 [0,1,5,1,6,1] U U<|Zv (yb l44 U) ?_
 refine Ze (esw 0 (m:=7) U U U U U U U)<|Zw0<|Znr<|Zr2<|Zr1<|Zre (.wh 0 (m:=7) U U U .n) hS [] 3 ?_ U U U
 rotate_left
 refine Zsk<|Zxn<|Zxs<|Zv (yb l44 U)<|Ze (esw 0 (m:=7) U U U U U U U)<|Zw0<|Znr<|Zre (.wh 0 (m:=7) U U U .n) hS [] 3 ?_ U U U
 rotate_left
 all_goals
  simp only [Bool.and_eq_true,Bool.and_eq_false_iff,decide_eq_true_eq,decide_eq_false_iff_not] at *
  unfold accF
  repeat (first | rw [if_neg (by omega)] | rw [if_pos (by omega)])
 all_goals first | rfl | (rw [hza (by omega) (by omega)];rfl)
theorem fd_no {α:Type} {n:Int}:∀ {T:List (Int × Nat × α)},(∀ m∈T.map Prod.fst,n≠m)→fd n T=none
 | [],_=>rfl
 | (m,p)::l,h=>by
  have h1:=h m (.head _)
  unfold fd
  rw [fd_no fun k hk=>h k (.tail _ hk),beq_false_of_ne h1]
  rfl
theorem le_nlt {x y:Int}:decide (y≤x) = !decide (x<y):=by by_cases h:x<y <;> simp [h] <;> omega
def takR (op a b:Int):Bool:=match fd op takT with | some p=>p.2 a b | none=>false
theorem c87 (op a b:Int) (ha:U32 a:=by assumption) (hb:U32 b:=by assumption):Sp Tryz.prog 87 [.int .i64 op,.int .u32 a,.int .u32 b] [] fun K=>K (.returned (.bool (takR op a b))) []:=by
 have e1:=sgn_s (a:=a)
 have e2:=sgn_s (a:=b)
 refine Zen Tryz.func87 U U U fun e X Φ hS=>Zsr<|Zy U<|Znqs<|Zm U<|Zn ?_
 refine Zbl<|Zsr<|Zb 2 U<|Zn<|Zif U (fun h8=>?_) (fun h8=>?_)
 refine Zsr<|Zb 4 U<|Znr<|Zr2<|Zr1 ?_
 refine Zre (.t U .n) hS [] 0 ?_ U U U
 rotate_left
 refine Zsr<|Zb 2 U<|Zn<|Zif U (fun h13=>?_) (fun h13=>?_)
 refine Zsr<|Zb 4 U<|Znr<|Zr2<|Zr1 ?_
 refine Zre (.t U .n) hS [] 0 ?_ U U U
 rotate_left
 refine Zsr<|Zb 2 U<|Zn<|Zif U (fun h18=>?_) (fun h18=>?_)
 refine Zsr<|Zm U<|Zk (c134 ..) [] U U<|Zq<|Zm U<|Zk (c134 ..) [] U U<|Zq<|Zb 2 U<|Znl ?_
 refine Zxr<|Zr2<|Zr1<|Zre (.t U .n) hS [] 0 ?_ U U U
 rotate_left
 refine Zsr<|Zb 2 U<|Zn<|Zif U (fun h25=>?_) (fun h25=>?_)
 refine Zsr<|Zm U<|Zk (c134 ..) [] U U<|Zq<|Zm U<|Zk (c134 ..) [] U U<|Zq<|Zb 2 U<|Znl ?_
 refine Zxr<|Zr2<|Zr1<|Zre (.t U .n) hS [] 0 ?_ U U U
 rotate_left
 refine Zsr<|Zb 2 U<|Zn<|Zif U (fun h32=>?_) (fun h32=>?_)
 refine Zsr<|Zb 4 U<|Znr<|Zr2<|Zr1 ?_
 refine Zre (.t U .n) hS [] 0 ?_ U U U
 rotate_left
 refine Zsr<|Zb 2 U<|Zn<|Zif U (fun h37=>?_) (fun h37=>?_)
 refine Zsr<|Zb 4 U<|Znr<|Zr2<|Zr1 ?_
 refine Zre (.t U .n) hS [] 0 ?_ U U U
 rotate_left
 refine Zsk<|Zxn<|Zxs<|Zy U<|Znr<|Zre (.t U .n) hS [] 0 ?_ U U U
 rotate_left
 all_goals
  unfold takR
  first
   | (subst_vars;rfl)
   | (subst_vars;rw [e1,e2];rfl)
   | (subst_vars;rw [le_nlt];rfl)
   | (subst_vars;rw [e1,e2,le_nlt];rfl)
   | (rw [fd_no (T:=takT) fun m hm=>by simp only [takT,List.map,List.mem_cons,List.not_mem_nil,or_false] at hm;omega];rfl)
theorem an_eq {x:Int} (hx:U32 x):IntKind.u32.wrap (x-x.tmod 2)=anF x:=by
 obtain ⟨n,rfl,hn⟩:=hx.nat
 unfold anF
 have e:((BitVec.ofInt 32 (n:Int)) &&& ~~~ BitVec.ofInt 32 1).toNat=n &&& 4294967294:=by
  rw [BitVec.toNat_and,bv_nat n hn];rfl
 rw [e,w32_of ⟨by omega,by have:=@and_lt' n 4294967294 (by decide);omega⟩,and_split n _ 1]
 rw [show 4294967294%2 ^ 1=0 from rfl,show 4294967294/2 ^ 1=2 ^ 31-1 from rfl,Nat.and_zero,and_ones,u32m,Int.tmod_eq_emod_of_nonneg (by omega)]
 omega
theorem dec_z (w:Int):48≤(decF w).1.op→(decF w).1.op≤58→(decF w).1.imm=0:=by
 unfold decF
 cases h:rowF w with
 | none=>exact fun _ _=>rfl
 | some r=>
  have hm:=row_mem h
  show 48≤r.1→r.1≤58→r.2.1.take w=0
  simp only [rowT,List.mem_cons,List.not_mem_nil,or_false] at hm
  rcases hm with rfl | rfl | rfl | rfl | rfl | rfl | rfl | rfl | rfl | rfl | rfl | rfl | rfl | rfl | rfl | rfl | rfl | rfl | rfl | rfl | rfl | rfl | rfl | rfl | rfl | rfl | rfl | rfl | rfl | rfl | rfl | rfl | rfl | rfl | rfl | rfl | rfl | rfl | rfl | rfl | rfl | rfl | rfl | rfl | rfl | rfl | rfl | rfl | rfl | rfl | rfl | rfl | rfl | rfl | rfl | rfl | rfl | rfl | rfl <;>
   first | exact fun _ _=>rfl | exact fun a _=>absurd a (by decide) | exact fun _ a=>absurd a (by decide)
theorem nx1 {h:Hrt} {i:Ins} (c:i.op=3∨takF h i=true):nxtF h i=(w32 (h.pc+i.imm),decide ((w32 (h.pc+i.imm)).tmod 4=0)):=if_pos c
theorem nx2 {h:Hrt} {i:Ins} (c:¬ (i.op=3∨takF h i=true)) (d:i.op=4):nxtF h i=(anF (w32 (h.reg i.rs1+i.imm)),decide ((anF (w32 (h.reg i.rs1+i.imm))).tmod 4=0)):=(if_neg c).trans (if_pos d)
theorem nx3 {h:Hrt} {i:Ins} (c:¬ (i.op=3∨takF h i=true)) (d:¬ i.op=4):nxtF h i=(w32 (h.pc+4),true):=(if_neg c).trans (if_neg d)
theorem c88 (h:Hrt) (i:Ins) (ok:h.Ok:=by assumption) (hi:U32 i.imm:=by assumption) (h1:i.rs1<32:=by first | assumption | omega) (h2:i.rs2<32:=by first | assumption | omega):Sp Tryz.prog 88 [.agg (hrtE.arr h),.agg (insE.arr i)] [] fun K=>K (.returned (.int .u32 (nxtF h i).1)) []:=by
 have hr1:=ok.reg i.rs1
 have hr2:=ok.reg i.rs2
 have hp:=ok.pc
 have h4:U32 4:=⟨by decide,by decide⟩
 refine Zen Tryz.func88 U U U fun e X Φ hS=>Zsr<|Ze (ebxE U) fun b2=>Zw<|Ze (ebxE U) fun b3=>Zw<|Zy U<|Znqs<|Zv (yf 0 U) ?_
 refine Za 2 [0] U U<|Znb<|Zsq<|Zhd [] U U<|Zht 0 U (ym U)<|Zht 1 U (yeq U U)<|Zht 2 U (ym U) ?_
 refine Zhgs 3 U U U (fun h12=>?_) (fun h12=>?_)
 refine Zhu 3 U U (lkn U (dT h12)) U<|Zhu 4 U U (lkn U (dT h12)) U<|Zhu 5 U U (lkn U (dT h12)) U<|Zhu 6 U U (lkn U (dT h12)) U<|Zhu 7 U U (lkn U (dT h12)) U<|Zhu 8 U U (lkn U (dT h12)) U<|Zhu 9 U U (lkn U (dT h12)) U<|Zhu 10 U U (lkn U (dT h12)) U<|Zhu 11 U U (lkn U (dT h12)) U<|Zhu 12 U U (lkn U (dT h12)) U ?_
 refine Zhu 13 U U (lkn U (dT h12)) U<|Zhu 14 U U (lkn U (dT h12)) U<|Zht 15 U (ypt' U (dT h12) U)<|Zht 16 U (ya U)<|ZHn<|Znx<|Zct U<|Zsr<|Za 2 [1,1] U U ?_
 refine Za 2 [4,0] U U<|Zk (c131 ..) [] U U<|Zq<|Zy U<|Znr<|Zr2<|Zr1 ?_
 refine Zre (.t U .n) hS [] 2 ?_ U U U
 rotate_left
 refine Zhg 3 U U (lkn U (dF h12)) (ym U)<|Zhg 4 U U (lkn U (dF h12)) (yf 2 U)<|Zhg 5 U U (lkn U (dF h12)) (yd 0 U U U)<|Zhg 6 U U (lkn U (dF h12)) (yf 2 U)<|Zhg 7 U U (lkn U (dF h12)) (yai Tryz.underlying57 U U (by omega))<|Zhg 8 U U (lkn U (dF h12)) (yd 1 U U (nt_reg _ _ (by omega)))<|Zhg 9 U U (lkn U (dF h12)) (yf 3 U)<|Zhg 10 U U (lkn U (dF h12)) (yd 0 U U U)<|Zhg 11 U U (lkn U (dF h12)) (yf 2 U)<|Zhg 12 U U (lkn U (dF h12)) (yai Tryz.underlying57 U U (by omega)) ?_
 refine Zhg 13 U U (lkn U (dF h12)) (yd 1 U U (nt_reg _ _ (by omega)))<|ZH1 14<|Zok (hg:=fun _ fr=>fr.want U U (lkn U (dF h12))) (c87 ..) [] U U U<|Zqh 0 U<|Zht 15 U (ypf' U (dF h12) U)<|Zht 16 U (ya U)<|ZHn<|Znx<|Zib U (fun h9=>?_) (fun h9=>?_)
 refine Zsr<|Za 4 [1,1,4,0] U U<|Zk (c131 ..) [] U U<|Zq<|Zy U<|Zn ?_
 refine Zrt<|Zr2<|Zr1<|Zre (.t U .n) hS [] 2 ?_ U U U
 rotate_left
 refine Zsr<|Zb 3 U<|Zn<|Zif U (fun h31=>?_) (fun h31=>?_)
 refine Zsq<|Zhd [] U U<|Zht 0 U (yf 2 U)<|Zht 1 U (yd 0 U U U)<|Zht 2 U (yf 2 U)<|Zht 3 U (yai Tryz.underlying57 U U (by omega))<|Zht 4 U (yd 1 U U (nt_reg _ _ (by omega)))<|Zht 5 U (yf 4 U)<|Zht 6 U (yd 0 U U U)<|ZH1 7<|Zok (c131 ..) [] U U U ?_
 refine Zqh 0 U<|Zht 8 U (ya U)<|ZHn<|Zxs<|Zb 2 U<|Zv (yrem U U (by decide) U)<|Zv (ysub U U U)<|Zy U ?_
 refine Znr<|Zr2<|Zr1<|Zre (.t U .n) hS [] 2 ?_ U U U
 rotate_left
 refine Zsk<|Zxn<|Zxs<|Za 2 [1,1] U U<|Zk (c131 ..) [] U U<|Zq<|Zy U<|Znl ?_
 refine Zxr<|Zre (.t U .n) hS [] 2 ?_ U U U
 rotate_left
 ·exact ik (by rw [nx1 (.inl h12)])
 ·exact ik (by rw [nx1 (.inr h9)])
 ·exact ik (by rw [nx2 (fun a=>a.elim h12 fun a=>Bool.noConfusion (h9.symm.trans a)) h31];exact an_eq (w32_u _))
 ·exact ik (by rw [nx3 (fun a=>a.elim h12 fun a=>Bool.noConfusion (h9.symm.trans a)) h31])
theorem nx_2 {h:Hrt} {i:Ins} (c:i.op=3∨i.op=4∨takF h i=true):(nxtF h i).2=decide ((nxtF h i).1.tmod 4=0):=by
 by_cases d:i.op=3∨takF h i=true
 ·rw [nx1 d]
 ·rw [nx2 d (c.elim (fun a=>absurd (.inl a) d) fun a=>a.elim id fun a=>absurd (.inr a) d)]
theorem nf {h:Hrt} {i:Ins} (c:i.op=3∨i.op=4∨takF h i=true) (d:(nxtF h i).1.tmod 4≠0):(nxtF h i).2=false:=(nx_2 c).trans (dF d)
theorem ng {h:Hrt} {i:Ins} (c:i.op=3∨i.op=4∨takF h i=true) (d:¬ (nxtF h i).1.tmod 4≠0):(nxtF h i).2=true:=(nx_2 c).trans (dT (Classical.not_not.1 d))
theorem nn {h:Hrt} {i:Ins} (c:¬ i.op=3) (d:¬ i.op=4) (a:takF h i=false):(nxtF h i).2=true:=by rw [nx3 (fun b=>b.elim c fun b=>Bool.noConfusion (a.symm.trans b)) d]
section
variable {h:Hrt} {w size:Int}
def bdA (h:Hrt) (i:Ins):Bool:=decide (0<(accF h i).width) && decide ((accF h i).addr.tmod (accF h i).width≠0)
def bdB (h:Hrt) (i:Ins) (size:Int):Bool:=decide (0<(accF h i).width) && decide (size<(accF h i).addr+(accF h i).width)
def actP (h:Hrt) (w size:Int):Acc × Int:=((actF h w size).1,(actF h w size).2.1)
theorem act_if (hg:goesF h=true):actP h w size=if (!(decF w).2)=true then (acc0,2) else if (decF w).1.op=39 then (acc0,1) else if bdA h (decF w).1=true then (acc0,3) else if bdB h (decF w).1 size=true then (acc0,4) else if (nxtF h (decF w).1).2=false then (acc0,3) else (accF h (decF w).1,0):=by
 unfold actP actF
 rw [if_neg (by rw [hg];decide)]
 unfold rdyF bdA bdB
 cases h1:(decF w).2
 ·simp
 ·by_cases h2:(decF w).1.op=39
  ·simp [h2]
  ·by_cases h3:0<(accF h (decF w).1).width
   ·by_cases h4:(accF h (decF w).1).addr.tmod (accF h (decF w).1).width=0
    ·by_cases h5:(accF h (decF w).1).addr+(accF h (decF w).1).width≤size
     ·have h6:¬ size<(accF h (decF w).1).addr+(accF h (decF w).1).width:=by omega
      cases h7:(nxtF h (decF w).1).2 <;> simp [h2,h3,h4,h5,h6]
     ·have h6:size<(accF h (decF w).1).addr+(accF h (decF w).1).width:=by omega
      simp [h2,h3,h4,h5,h6]
    ·simp [h2,h3,h4]
   ·cases h7:(nxtF h (decF w).1).2 <;> simp [h2,h3]
theorem bf {b:Bool} (h:b=false):¬ b=true:=by rw [h];decide
theorem q2 (hg:goesF h=true) (h1:(!(decF w).2)=true):actP h w size=(acc0,2):=(act_if hg).trans (if_pos h1)
theorem q1 (hg:goesF h=true) (h1:(!(decF w).2)=false) (h2:(decF w).1.op=39):actP h w size=(acc0,1):=(act_if hg).trans ((if_neg (bf h1)).trans (if_pos h2))
theorem q3 (hg:goesF h=true) (h1:(!(decF w).2)=false) (h2:¬ (decF w).1.op=39) (h3:bdA h (decF w).1=true):actP h w size=(acc0,3):=(act_if hg).trans ((if_neg (bf h1)).trans ((if_neg h2).trans (if_pos h3)))
theorem q4 (hg:goesF h=true) (h1:(!(decF w).2)=false) (h2:¬ (decF w).1.op=39) (h3:bdA h (decF w).1=false) (h4:bdB h (decF w).1 size=true):actP h w size=(acc0,4):=(act_if hg).trans ((if_neg (bf h1)).trans ((if_neg h2).trans ((if_neg (bf h3)).trans (if_pos h4))))
theorem q5 (hg:goesF h=true) (h1:(!(decF w).2)=false) (h2:¬ (decF w).1.op=39) (h3:bdA h (decF w).1=false) (h4:bdB h (decF w).1 size=false) (h5:(nxtF h (decF w).1).2=false):actP h w size=(acc0,3):=(act_if hg).trans ((if_neg (bf h1)).trans ((if_neg h2).trans ((if_neg (bf h3)).trans ((if_neg (bf h4)).trans (if_pos h5)))))
theorem q0 (hg:goesF h=true) (h1:(!(decF w).2)=false) (h2:¬ (decF w).1.op=39) (h3:bdA h (decF w).1=false) (h4:bdB h (decF w).1 size=false) (h5:(nxtF h (decF w).1).2=true):actP h w size=(accF h (decF w).1,0):=(act_if hg).trans ((if_neg (bf h1)).trans ((if_neg h2).trans ((if_neg (bf h3)).trans ((if_neg (bf h4)).trans (if_neg (by rw [h5];decide))))))
theorem tqA {a:Acc} {c:Int} (e:actP h w size=(a,c)):pk [.agg (accE.cells a).toArray,.int .i64 c] = .tuple #[.agg (accE.arr (actF h w size).1),.int .i64 (actF h w size).2.1]:=by
 have e1:(actF h w size).1=a:=congrArg Prod.fst e
 have e2:(actF h w size).2.1=c:=congrArg Prod.snd e
 rw [e1,e2];rfl
theorem bd_no (i:Ins) (h3:¬ 0<(accF h i).width):bdA h i=false∧bdB h i size=false:=by unfold bdA bdB;rw [dF h3];exact ⟨rfl,rfl⟩
end
theorem c47 (h:Hrt) (w size:Int) (ok:h.Ok:=by assumption) (hw:U32 w:=by assumption) (hc:h.cause=0:=by assumption):Sp Tryz.prog 47 [.agg (hrtE.arr h),.int .u32 w,.int .i64 size] [] fun K=>K (.returned (.tuple #[.agg (accE.arr (actF h w size).1),.int .i64 (actF h w size).2.1])) []:=by
 have io:=dec_ok w
 have h1:=io.s1
 have h2:=io.s2
 have him:=io.im
 have ao:=acc_ok ok io
 have ha:=ao.ad
 have hw0:=ao.w0
 have hw1:=ao.w1
 have hz:=dec_z w
 have hg:goesF h=true:=dT hc
 unfold U32 at ha
 have hr1:=ok.reg (decF w).1.rs1
 have hr2:=ok.reg (decF w).1.rs2
 refine Zen Tryz.func47 U U U fun e X Φ hS=>Zsr<|Ze (ebxE U) fun b3=>Zw<|Ze (eal z44) fun b6=>Zw<|Zy U<|Zns<|Zm U<|Zk (c65 ..) [] U U ?_
 refine Zq<|Zb 3 U<|Ze (eal z167) fun b8=>Zw<|Ze (esw 0 (m:=7) U U U U U (Enc.len ..) (Enc.allL ..))<|Zw0<|Zy U<|Znq ?_
 refine Zsr<|Zb 2 U<|Zn<|Zib U (fun h18=>?_) (fun h18=>?_)
 refine Zsr<|Zv (yb l44 U)<|Ze (esw 1 (m:=7) U U U U U U U)<|Zw0<|Zy U<|Znr<|Zr1<|Zre (.wh 1 (m:=7) U U U (.t U .n)) hS [] 3 ?_ U U U
 rotate_left
 refine Zkn<|Zsq<|Zsr<|Za 3 [0,0] U U<|Zn<|Zif U (fun h22=>?_) (fun h22=>?_)
 refine Zsr<|Zv (yb l44 U)<|Ze (esw 1 (m:=7) U U U U U U U)<|Zw0<|Zy U<|Znr<|Zr1<|Zre (.wh 1 (m:=7) U U U (.t U .n)) hS [] 3 ?_ U U U
 rotate_left
 refine Zks<|Zv (ydw 2 (m:=35) U U (Enc.len ..))<|Zv (ydw 0 (m:=7) U U (Enc.len ..))<|Zk (c86 ..) [] U U<|Zq<|Ze (eal z44) fun b10=>Zw<|Ze (esw 0 (m:=7) U U U U U (Enc.len ..) (Enc.allL ..))<|Zw0<|Znl ?_
 refine Zxq<|Zsr<|Za 4 [2,0] U U<|Zgs U U (fun h30=>?_) (fun h30=>?_)
 refine Zg' U U (dT h30)<|Zv (yf 1 U)<|Zg' U U (dT h30)<|Zv (yd 0 U U U)<|Zg' U U (dT h30)<|Zv (yf 2 U)<|Zg' U U (dT h30)<|Zv (yd 0 U U U)<|Zg' U U (dT h30)<|Zv (ycv Tryz.underlying3 Tryz.underlying40 U (u32w U (by omega))) ?_
 refine Zg' U U (dT h30)<|Zv (yrem U U (by omega) U)<|Zc 2 [] U U<|Zn<|Zib U (fun h38=>?_) (fun h38=>?_)
 refine Zsr<|Zv (yb l44 U)<|Ze (esw 2 (m:=7) U U U U U U U)<|Zw0<|Zy U<|Znr<|Zr1<|Zre (.wh 2 (m:=7) U U U (.t U .n)) hS [] 4 ?_ U U U
 rotate_left
 refine Zkn<|Zsq<|Zsr<|Za 4 [2,0] U U<|Zg' U U (dT h30)<|Zv (yf 1 U) ?_
 refine Zg' U U (dT h30)<|Zv (yd 0 U U U)<|Zg' U U (dT h30)<|Zv (ycv Tryz.underlying40 Tryz.underlying2 U (i64w U (by omega)))<|Zg' U U (dT h30)<|Zv (yf 2 U)<|Zg' U U (dT h30)<|Zv (yd 0 U U U)<|Zg' U U (dT h30)<|Zv (yadd U U (i64w U (by omega))) ?_
 refine Zc 3 [] U U<|Zn<|Zib U (fun h52=>?_) (fun h52=>?_)
 refine Zsr<|Zv (yb l44 U)<|Ze (esw 2 (m:=7) U U U U U U U)<|Zw0<|Zy U<|Znr<|Zr1<|Zre (.wh 2 (m:=7) U U U (.t U .n)) hS [] 4 ?_ U U U
 rotate_left
 refine Zks<|Za 3 [0,1] U U<|Znq<|Zsq ?_
 refine Zhd [] U U<|Zht 0 U (ym U)<|Zht 1 U (yeq U U)<|Zht 2 U (ym U)<|Zhgs 3 U U U (fun h58=>?_) (fun h58=>?_)
 refine Zhu 3 U U (lkn U (dT h58)) U<|Zhu 4 U U (lkn U (dT h58)) U<|Zht 5 U (ypt' U (dT h58) U)<|Zht 6 U (ym U)<|Zhu 7 U U U U<|Zhu 8 U U U U<|Zhu 9 U U U U<|Zhu 10 U U U U<|Zhu 11 U U U U<|Zhu 12 U U U U ?_
 refine Zhu 13 U U U U<|Zhu 14 U U U U<|Zhu 15 U U U U<|Zhu 16 U U U U<|Zhu 17 U U U U<|Zhu 18 U U U U<|Zht 19 U (ypt U U)<|Zht 20 U (ym U)<|Zhg 21 U U U (ydw 3 (m:=35) U U (Enc.len ..))<|Zhg 22 U U U (ydw 1 (m:=7) U U (Enc.len ..)) ?_
 refine ZH1 23<|Zok (c88 ..) [] U U U<|Zqh 0 U<|Zhg 24 U U U (yrem U U (by decide) U)<|Zhg 25 U U U (yne U U)<|Zht 26 U (ypt U U)<|ZHn<|Znx<|Zif U (fun h82=>?_) (fun h82=>?_)
 refine Zsr<|Zv (yb l44 U)<|Ze (esw 2 (m:=7) U U U U U U U)<|Zw0<|Zy U<|Znr<|Zr1<|Zre (.wh 2 (m:=7) U U U (.t U .n)) hS [] 4 ?_ U U U
 rotate_left
 refine Zks<|Zv (ydw 0 (m:=7) U U (Enc.len ..))<|Ze (esw 2 (m:=7) U U U U U (Enc.len ..) (Enc.allL ..))<|Zw0<|Zy U<|Znr<|Zre (.wh 2 (m:=7) U U (Enc.len ..) (.t U .n)) hS [] 4 ?_ U U U
 rotate_left
 refine Zhg 3 U U (lkn U (dF h58)) (ym U)<|Zhg 4 U U (lkn U (dF h58)) (yeq U U)<|Zht 5 U (ypf' U (dF h58) U)<|Zht 6 U (ym U)<|Zhgs 7 U U U (fun h62=>?_) (fun h62=>?_)
 refine Zhu 7 U U (lkn U (dT h62)) U<|Zhu 8 U U (lkn U (dT h62)) U<|Zhu 9 U U (lkn U (dT h62)) U<|Zhu 10 U U (lkn U (dT h62)) U<|Zhu 11 U U (lkn U (dT h62)) U<|Zhu 12 U U (lkn U (dT h62)) U<|Zhu 13 U U (lkn U (dT h62)) U<|Zhu 14 U U (lkn U (dT h62)) U<|Zhu 15 U U (lkn U (dT h62)) U<|Zhu 16 U U (lkn U (dT h62)) U ?_
 refine Zhu 17 U U (lkn U (dT h62)) U<|Zhu 18 U U (lkn U (dT h62)) U<|Zht 19 U (ypt' U (dT h62) U)<|Zht 20 U (ym U)<|Zhg 21 U U U (ydw 3 (m:=35) U U (Enc.len ..))<|Zhg 22 U U U (ydw 1 (m:=7) U U (Enc.len ..))<|ZH1 23<|Zok (c88 ..) [] U U U<|Zqh 0 U<|Zhg 24 U U U (yrem U U (by decide) U)<|Zhg 25 U U U (yne U U) ?_
 refine Zht 26 U (ypt U U)<|ZHn<|Znx<|Zif U (fun h82=>?_) (fun h82=>?_)
 refine Zsr<|Zv (yb l44 U)<|Ze (esw 2 (m:=7) U U U U U U U)<|Zw0<|Zy U<|Znr<|Zr1<|Zre (.wh 2 (m:=7) U U U (.t U .n)) hS [] 4 ?_ U U U
 rotate_left
 refine Zks<|Zv (ydw 0 (m:=7) U U (Enc.len ..))<|Ze (esw 2 (m:=7) U U U U U (Enc.len ..) (Enc.allL ..))<|Zw0<|Zy U<|Znr<|Zre (.wh 2 (m:=7) U U (Enc.len ..) (.t U .n)) hS [] 4 ?_ U U U
 rotate_left
 refine Zhg 7 U U (lkn U (dF h62)) (ym U)<|Zhg 8 U U (lkn U (dF h62)) (yf 2 U)<|Zhg 9 U U (lkn U (dF h62)) (yd 1 U U U)<|Zhg 10 U U (lkn U (dF h62)) (yf 2 U)<|Zhg 11 U U (lkn U (dF h62)) (yai Tryz.underlying57 U U (by omega))<|Zhg 12 U U (lkn U (dF h62)) (yd 3 U U (nt_reg _ _ (by omega)))<|Zhg 13 U U (lkn U (dF h62)) (yf 3 U)<|Zhg 14 U U (lkn U (dF h62)) (yd 1 U U U)<|Zhg 15 U U (lkn U (dF h62)) (yf 2 U)<|Zhg 16 U U (lkn U (dF h62)) (yai Tryz.underlying57 U U (by omega)) ?_
 refine Zhg 17 U U (lkn U (dF h62)) (yd 3 U U (nt_reg _ _ (by omega)))<|ZH1 18<|Zok (hg:=fun _ fr=>fr.want U U (lkn U (dF h62))) (c87 ..) [] U U U<|Zqh 0 U<|Zht 19 U (ypf' U (dF h62) U)<|Zht 20 U (ym U)<|Zhgb 21 U U U (fun h76=>?_) (fun h76=>?_)
 refine Zhg 21 U U (lkn U h76) (ydw 3 (m:=35) U U (Enc.len ..))<|Zhg 22 U U (lkn U h76) (ydw 1 (m:=7) U U (Enc.len ..))<|ZH1 23<|Zok (hg:=fun _ fr=>fr.want U U (lkn U h76)) (c88 ..) [] U U U<|Zqh 0 U<|Zhg 24 U U (lkn U h76) (yrem U U (by decide) U)<|Zhg 25 U U (lkn U h76) (yne U U)<|Zht 26 U (ypt' U h76 U)<|ZHn<|Znx<|Zif U (fun h82=>?_) (fun h82=>?_)
 refine Zsr<|Zv (yb l44 U)<|Ze (esw 2 (m:=7) U U U U U U U)<|Zw0<|Zy U<|Znr<|Zr1<|Zre (.wh 2 (m:=7) U U U (.t U .n)) hS [] 4 ?_ U U U
 rotate_left
 refine Zks<|Zv (ydw 0 (m:=7) U U (Enc.len ..))<|Ze (esw 2 (m:=7) U U U U U (Enc.len ..) (Enc.allL ..))<|Zw0<|Zy U<|Znr<|Zre (.wh 2 (m:=7) U U (Enc.len ..) (.t U .n)) hS [] 4 ?_ U U U
 rotate_left
 refine Zhu 21 U U (lkn U h76) U<|Zhu 22 U U (lkn U h76) U<|Zhu 23 U U (lkn U h76) U<|Zhu 24 U U (lkn U h76) U<|Zhu 25 U U (lkn U h76) U<|Zht 26 U (ypf' U h76 U)<|ZHn<|Znx<|Zcf U<|Zsk ?_
 refine Zxs<|Zv (ydw 0 (m:=7) U U (Enc.len ..))<|Ze (esw 2 (m:=7) U U U U U (Enc.len ..) (Enc.allL ..))<|Zw0<|Zy U<|Znr<|Zre (.wh 2 (m:=7) U U (Enc.len ..) (.t U .n)) hS [] 4 ?_ U U U
 rotate_left
 refine Zu' U U (dF h30) U<|Zu' U U (dF h30) U<|Zu' U U (dF h30) U<|Zu' U U (dF h30) U<|Zu' U U (dF h30) U<|Zu' U U (dF h30) U<|Zu' U U (dF h30) U<|Zv (ypf' U (dF h30) U)<|Zn ?_
 refine Zcf U<|Zkn<|Zsq<|Zsr<|Za 4 [2,0] U U<|Zu' U U (dF h30) U ?_
 refine Zu' U U (dF h30) U<|Zu' U U (dF h30) U<|Zu' U U (dF h30) U<|Zu' U U (dF h30) U<|Zu' U U (dF h30) U<|Zu' U U (dF h30) U<|Zu' U U (dF h30) U<|Zv (ypf' U (dF h30) U)<|Zn ?_
 refine Zcf U<|Zks<|Za 3 [0,1] U U<|Znq ?_
 refine Zsq<|Zhd [] U U<|Zht 0 U (ym U)<|Zht 1 U (yeq U U)<|Zht 2 U (ym U)<|Zhgs 3 U U U (fun h58=>?_) (fun h58=>?_)
 refine Zhu 3 U U (lkn U (dT h58)) U<|Zhu 4 U U (lkn U (dT h58)) U<|Zht 5 U (ypt' U (dT h58) U)<|Zht 6 U (ym U)<|Zhu 7 U U U U<|Zhu 8 U U U U<|Zhu 9 U U U U<|Zhu 10 U U U U<|Zhu 11 U U U U<|Zhu 12 U U U U ?_
 refine Zhu 13 U U U U<|Zhu 14 U U U U<|Zhu 15 U U U U<|Zhu 16 U U U U<|Zhu 17 U U U U<|Zhu 18 U U U U<|Zht 19 U (ypt U U)<|Zht 20 U (ym U)<|Zhg 21 U U U (ydw 3 (m:=35) U U (Enc.len ..))<|Zhg 22 U U U (ydw 1 (m:=7) U U (Enc.len ..)) ?_
 refine ZH1 23<|Zok (c88 ..) [] U U U<|Zqh 0 U<|Zhg 24 U U U (yrem U U (by decide) U)<|Zhg 25 U U U (yne U U)<|Zht 26 U (ypt U U)<|ZHn<|Znx<|Zif U (fun h82=>?_) (fun h82=>?_)
 refine Zsr<|Zv (yb l44 U)<|Ze (esw 2 (m:=7) U U U U U U U)<|Zw0<|Zy U<|Znr<|Zr1<|Zre (.wh 2 (m:=7) U U U (.t U .n)) hS [] 4 ?_ U U U
 rotate_left
 refine Zks<|Zv (ydw 0 (m:=7) U U (Enc.len ..))<|Ze (esw 2 (m:=7) U U U U U (Enc.len ..) (Enc.allL ..))<|Zw0<|Zy U<|Znr<|Zre (.wh 2 (m:=7) U U (Enc.len ..) (.t U .n)) hS [] 4 ?_ U U U
 rotate_left
 refine Zhg 3 U U (lkn U (dF h58)) (ym U)<|Zhg 4 U U (lkn U (dF h58)) (yeq U U)<|Zht 5 U (ypf' U (dF h58) U)<|Zht 6 U (ym U)<|Zhgs 7 U U U (fun h62=>?_) (fun h62=>?_)
 refine Zhu 7 U U (lkn U (dT h62)) U<|Zhu 8 U U (lkn U (dT h62)) U<|Zhu 9 U U (lkn U (dT h62)) U<|Zhu 10 U U (lkn U (dT h62)) U<|Zhu 11 U U (lkn U (dT h62)) U<|Zhu 12 U U (lkn U (dT h62)) U<|Zhu 13 U U (lkn U (dT h62)) U<|Zhu 14 U U (lkn U (dT h62)) U<|Zhu 15 U U (lkn U (dT h62)) U<|Zhu 16 U U (lkn U (dT h62)) U ?_
 refine Zhu 17 U U (lkn U (dT h62)) U<|Zhu 18 U U (lkn U (dT h62)) U<|Zht 19 U (ypt' U (dT h62) U)<|Zht 20 U (ym U)<|Zhg 21 U U U (ydw 3 (m:=35) U U (Enc.len ..))<|Zhg 22 U U U (ydw 1 (m:=7) U U (Enc.len ..))<|ZH1 23<|Zok (c88 ..) [] U U U<|Zqh 0 U<|Zhg 24 U U U (yrem U U (by decide) U)<|Zhg 25 U U U (yne U U) ?_
 refine Zht 26 U (ypt U U)<|ZHn<|Znx<|Zif U (fun h82=>?_) (fun h82=>?_)
 refine Zsr<|Zv (yb l44 U)<|Ze (esw 2 (m:=7) U U U U U U U)<|Zw0<|Zy U<|Znr<|Zr1<|Zre (.wh 2 (m:=7) U U U (.t U .n)) hS [] 4 ?_ U U U
 rotate_left
 refine Zks<|Zv (ydw 0 (m:=7) U U (Enc.len ..))<|Ze (esw 2 (m:=7) U U U U U (Enc.len ..) (Enc.allL ..))<|Zw0<|Zy U<|Znr<|Zre (.wh 2 (m:=7) U U (Enc.len ..) (.t U .n)) hS [] 4 ?_ U U U
 rotate_left
 refine Zhg 7 U U (lkn U (dF h62)) (ym U)<|Zhg 8 U U (lkn U (dF h62)) (yf 2 U)<|Zhg 9 U U (lkn U (dF h62)) (yd 1 U U U)<|Zhg 10 U U (lkn U (dF h62)) (yf 2 U)<|Zhg 11 U U (lkn U (dF h62)) (yai Tryz.underlying57 U U (by omega))<|Zhg 12 U U (lkn U (dF h62)) (yd 3 U U (nt_reg _ _ (by omega)))<|Zhg 13 U U (lkn U (dF h62)) (yf 3 U)<|Zhg 14 U U (lkn U (dF h62)) (yd 1 U U U)<|Zhg 15 U U (lkn U (dF h62)) (yf 2 U)<|Zhg 16 U U (lkn U (dF h62)) (yai Tryz.underlying57 U U (by omega)) ?_
 refine Zhg 17 U U (lkn U (dF h62)) (yd 3 U U (nt_reg _ _ (by omega)))<|ZH1 18<|Zok (hg:=fun _ fr=>fr.want U U (lkn U (dF h62))) (c87 ..) [] U U U<|Zqh 0 U<|Zht 19 U (ypf' U (dF h62) U)<|Zht 20 U (ym U)<|Zhgb 21 U U U (fun h76=>?_) (fun h76=>?_)
 refine Zhg 21 U U (lkn U h76) (ydw 3 (m:=35) U U (Enc.len ..))<|Zhg 22 U U (lkn U h76) (ydw 1 (m:=7) U U (Enc.len ..))<|ZH1 23<|Zok (hg:=fun _ fr=>fr.want U U (lkn U h76)) (c88 ..) [] U U U<|Zqh 0 U<|Zhg 24 U U (lkn U h76) (yrem U U (by decide) U)<|Zhg 25 U U (lkn U h76) (yne U U)<|Zht 26 U (ypt' U h76 U)<|ZHn<|Znx<|Zif U (fun h82=>?_) (fun h82=>?_)
 refine Zsr<|Zv (yb l44 U)<|Ze (esw 2 (m:=7) U U U U U U U)<|Zw0<|Zy U<|Znr<|Zr1<|Zre (.wh 2 (m:=7) U U U (.t U .n)) hS [] 4 ?_ U U U
 rotate_left
 refine Zks<|Zv (ydw 0 (m:=7) U U (Enc.len ..))<|Ze (esw 2 (m:=7) U U U U U (Enc.len ..) (Enc.allL ..))<|Zw0<|Zy U<|Znr<|Zre (.wh 2 (m:=7) U U (Enc.len ..) (.t U .n)) hS [] 4 ?_ U U U
 rotate_left
 refine Zhu 21 U U (lkn U h76) U<|Zhu 22 U U (lkn U h76) U<|Zhu 23 U U (lkn U h76) U<|Zhu 24 U U (lkn U h76) U<|Zhu 25 U U (lkn U h76) U<|Zht 26 U (ypf' U h76 U)<|ZHn<|Znx<|Zcf U<|Zsk ?_
 refine Zxs<|Zv (ydw 0 (m:=7) U U (Enc.len ..))<|Ze (esw 2 (m:=7) U U U U U (Enc.len ..) (Enc.allL ..))<|Zw0<|Zy U<|Znr<|Zre (.wh 2 (m:=7) U U (Enc.len ..) (.t U .n)) hS [] 4 ?_ U U U
 rotate_left
 all_goals first
  | exact tqA (a:=acc0) (q2 hg h18)
  | exact tqA (a:=acc0) (q1 hg h18 h22)
  | exact tqA (a:=acc0) (q3 hg h18 h22 h38)
  | exact tqA (a:=acc0) (q4 hg h18 h22 h38 h52)
  | exact tqA (a:=acc0) (q5 hg h18 h22 (by first | exact h38 | exact (bd_no (size:=0) _ h30).1) (by first | exact h52 | exact (bd_no _ h30).2) (by first | exact nf (.inl h58) h82 | exact nf (.inr (.inl h62)) h82 | exact nf (.inr (.inr h76)) h82))
  | exact tqA (q0 hg h18 h22 (by first | exact h38 | exact (bd_no (size:=0) _ h30).1) (by first | exact h52 | exact (bd_no _ h30).2) (by first | exact ng (.inl h58) h82 | exact ng (.inr (.inl h62)) h82 | exact ng (.inr (.inr h76)) h82 | exact nn h58 h62 h76))
theorem m24:min (m31 (w32 (32-8))).toNat 32=24∧min (m31 (w32 (32-16))).toNat 32=16:=by decide +kernel
theorem ext_8 {n:Int} (hn:U32 n):extF n 8=if n%256<128 then n%256 else n%256+4294967040:=by
 rw [extF_2 (by decide)]
 unfold sarF shlF
 rw [m24.1,Int.fdiv_eq_ediv_of_nonneg _ (by decide),show (2:Int) ^ 24=16777216 from rfl,s32m,w32_eq,w32_eq]
 unfold U32 at hn
 split <;> split <;> omega
theorem ext_16 {n:Int} (hn:U32 n):extF n 16=if n%65536<32768 then n%65536 else n%65536+4294901760:=by
 rw [extF_2 (by decide)]
 unfold sarF shlF
 rw [m24.2,Int.fdiv_eq_ediv_of_nonneg _ (by decide),show (2:Int) ^ 16=65536 from rfl,s32m,w32_eq,w32_eq]
 unfold U32 at hn
 split <;> split <;> omega
theorem tqV {o:Option Int} {v:Int} (e:o=some v):pk [.int .u32 v,.bool true] = .tuple #[.int .u32 (o.getD 0),.bool o.isSome]:=by subst e;rfl
theorem tqN {o:Option Int} (e:o=none):pk [.int .u32 0,.bool false] = .tuple #[.int .u32 (o.getD 0),.bool o.isSome]:=by subst e;rfl
theorem tw_d:∀ k:_root_.Fin 60,(19≤k.1∧k.1≤37∨40≤k.1∧k.1≤47)→(fd (k.1:Int) twoT).isSome=true:=by decide +kernel
theorem va_t {h:Hrt} {i:Ins} {x:Ans} {b:Int} (c:19≤i.op∧i.op≤37∨40≤i.op∧i.op≤47) (e:b=if 19≤i.op∧i.op≤27 then i.imm else h.reg i.rs2):valF h i x=some (twoR i.op (h.reg i.rs1) b):=by
 have hd:=tw_d ⟨i.op.toNat,by omega⟩ (by simp only;omega)
 simp only at hd
 rw [show ((i.op.toNat:Nat):Int)=i.op by omega] at hd
 unfold valF twoR
 cases hp:fd i.op twoT with
 | none=>rw [hp] at hd;cases hd
 | some p=>rw [e]
theorem va_g {h:Hrt} {i:Ins} {x:Ans} (c:¬ (19≤i.op∧i.op≤37∨40≤i.op∧i.op≤47)):valF h i x=valG h i x:=by
 unfold valF
 rw [fd_no (T:=twoT) fun m hm=>by simp only [twoT,List.map,List.mem_cons,List.not_mem_nil,or_false] at hm;omega]
theorem va_b {h:Hrt} {i:Ins} {x:Ans} (hx:U32 x.value) (c:i.op=11):valF h i x=some (if 127<lowF x.value (widF i.op) then w32 (lowF x.value (widF i.op)-256) else w32 (lowF x.value (widF i.op))):=by
 rw [va_g (by omega)]
 unfold valG
 rw [if_neg (by omega),if_neg (by omega),if_neg (by omega),if_pos (by omega),c,show IntKind.i64.wrap (8*widF 11)=8 from rfl,ext_8 hx,low_eq hx,if_pos (show widF 11=1 from rfl),w32_eq,w32_eq]
 unfold U32 at hx
 congr 1
 split <;> split <;> omega
theorem va_h {h:Hrt} {i:Ins} {x:Ans} (hx:U32 x.value) (c:i.op=12):valF h i x=some (if 32767<lowF x.value (widF i.op) then w32 (lowF x.value (widF i.op)-65536) else w32 (lowF x.value (widF i.op))):=by
 rw [va_g (by omega)]
 unfold valG
 rw [if_neg (by omega),if_neg (by omega),if_neg (by omega),if_pos (by omega),c,show IntKind.i64.wrap (8*widF 12)=16 from rfl,ext_16 hx,low_eq hx,if_neg (show ¬ widF 12=1 by decide),if_pos (show widF 12=2 from rfl),w32_eq,w32_eq]
 unfold U32 at hx
 congr 1
 split <;> split <;> omega
theorem va_w {h:Hrt} {i:Ins} {x:Ans} (hx:U32 x.value) (c:13≤i.op∧i.op≤15):valF h i x=some (lowF x.value (widF i.op)):=by
 rw [va_g (by omega)]
 unfold valG
 rw [if_neg (by omega),if_neg (by omega),if_neg (by omega),if_neg (by omega)]
 by_cases d:i.op=13
 ·rw [if_neg (by omega),if_neg (by omega),if_neg (by omega),if_pos (by omega),d,low_eq hx,if_neg (show ¬ widF 13=1 by decide),if_neg (show ¬ widF 13=2 by decide)]
 ·rw [if_pos (by omega)]
theorem c91 (h:Hrt) (i:Ins) (x:Ans) (ok:h.Ok:=by assumption) (hi:U32 i.imm:=by assumption) (h1:i.rs1<32:=by first | assumption | omega) (h2:i.rs2<32:=by first | assumption | omega) (hx:U32 x.value:=by assumption):Sp Tryz.prog 91 [.agg (hrtE.arr h),.agg (insE.arr i),.agg (ansE.arr x)] [] fun K=>K (.returned (.tuple #[.int .u32 ((valF h i x).getD 0),.bool (valF h i x).isSome])) []:=by
  have hr1:=ok.reg i.rs1
  have hr2:=ok.reg i.rs2
  have hp:=ok.pc
  have h4:U32 4:=⟨by decide,by decide⟩
  have hlo:=low_eq (w:=widF i.op) hx
  have hlu:=low_u (w:=widF i.op) hx
  unfold U32 at hlu
  refine Zen Tryz.func91 U U U fun e X Φ hS=>Zsr<|Ze (ebxE U) fun b3=>Zw<|Ze (ebxE U) fun b4=>Zw<|Ze (ebxE U) fun b5=>Zw<|Zb 2 U<|Zns ?_
  refine Za 3 [0,1] U U<|Znq<|Zhd [] U U<|Zht 0 U (yf 2 U)<|Zht 1 U (yd 1 U U U)<|Zht 2 U (yf 2 U) ?_
  refine Zht 3 U (yai Tryz.underlying57 U U (by omega))<|Zht 4 U (yd 2 U U (nt_reg _ _ (by omega)))<|Zht 5 U (yf 3 U)<|Zht 6 U (yd 1 U U U)<|Zht 7 U (yf 2 U)<|Zht 8 U (yai Tryz.underlying57 U U (by omega))<|Zht 9 U (yd 2 U U (nt_reg _ _ (by omega)))<|Zht 10 U (ya U)<|Zht 11 U (ya U)<|ZHn ?_
  refine Zxq<|Zbl<|Zsr<|Zb 3 U<|Zn<|Zif U (fun h24=>?_) (fun h24=>?_)
  refine Zsr<|Za 4 [4,1] U U<|Znr<|Zr2<|Zr1 ?_
  refine Zre (.t U (.t U .n)) hS [] 3 ?_ U U U
  rotate_left
  refine Zsr<|Zb 3 U<|Zn<|Zif U (fun h29=>?_) (fun h29=>?_)
  refine Zsr<|Za 4 [1,2,4,1] U U<|Zk (c131 ..) [] U U<|Zq<|Zb 2 U<|Znl ?_
  refine Zxr<|Zr2<|Zr1<|Zre (.t U (.t U .n)) hS [] 3 ?_ U U U
  rotate_left
  refine Zsr<|Zb 3 U<|Zc 4 [] U U<|Zn<|Zib U (fun h37=>?_) (fun h37=>?_)
  refine Zsr<|Za 2 [1,2] U U<|Zk (c131 ..) [] U U<|Zq<|Zb 2 U<|Znr ?_
  refine Zr2<|Zr1<|Zre (.t U (.t U .n)) hS [] 3 ?_ U U U
  rotate_left
  refine Zsr<|Zb 3 U<|Zc 4 [] U U<|Zn<|Zib U (fun h47=>?_) (fun h47=>?_)
  refine Zsq<|Zhd [] U U<|Zht 0 U (yf 0 U)<|Zht 1 U (yd 0 U U U)<|Zht 2 U (ym U)<|ZH1 3<|Zok (c132 ..) [] U U U<|Zqh 0 U<|ZH1 4<|Zok (c133 ..) [] U U U<|Zqh 0 U<|Zht 5 U (ycv Tryz.underlying40 Tryz.underlying2 U (i64w U (by omega))) ?_
  refine Zht 6 U (ya U)<|ZHn<|Zxq<|Zsr<|Zb 3 U<|Zc 3 [] U U<|Znl ?_
  refine Znx<|Zib U (fun h65=>?_) (fun h65=>?_)
  refine Zrg<|Zm U<|Zv (ysub U U (i64w U (by omega)))<|Zy U<|Znqs<|Zb 2 U ?_
  refine Zm U<|Zc 3 [] U U<|Zn<|Zib U (fun h73=>?_) (fun h73=>?_)
  refine Zrg<|Zm U<|Zv (ysub U U (i64w U (by omega)))<|Zy U<|Zns<|Zm U<|Zk (c135 ..) [] U U<|Zq ?_
  refine Zb 2 U<|Znr<|Zr2<|Zr1<|Zre (.t U (.t U .n)) hS [] 3 ?_ U U U
  rotate_left
  refine Zks<|Zm U<|Zk (c135 ..) [] U U<|Zq<|Zb 2 U<|Zn ?_
  refine Zrt<|Zr2<|Zr1<|Zre (.t U (.t U .n)) hS [] 3 ?_ U U U
  rotate_left
  refine Zkn<|Zsq<|Zsr<|Zb 3 U<|Zc 3 [] U U<|Zn ?_
  refine Zib U (fun h73=>?_) (fun h73=>?_)
  refine Zrg<|Zm U<|Zv (ysub U U (i64w U (by omega)))<|Zy U<|Zns<|Zm U<|Zk (c135 ..) [] U U<|Zq ?_
  refine Zb 2 U<|Znr<|Zr2<|Zr1<|Zre (.t U (.t U .n)) hS [] 3 ?_ U U U
  rotate_left
  refine Zks<|Zm U<|Zk (c135 ..) [] U U<|Zq<|Zb 2 U<|Zn ?_
  refine Zrt<|Zr2<|Zr1<|Zre (.t U (.t U .n)) hS [] 3 ?_ U U U
  rotate_left
  refine Zsr<|Zb 3 U<|Zc 4 [] U U<|Zn<|Zib U (fun h78=>?_) (fun h78=>?_)
  refine Zsq<|Zhd [] U U<|Zht 0 U (yf 0 U)<|Zht 1 U (yd 0 U U U)<|Zht 2 U (ym U)<|ZH1 3<|Zok (c132 ..) [] U U U<|Zqh 0 U<|ZH1 4<|Zok (c133 ..) [] U U U<|Zqh 0 U<|Zht 5 U (ya U) ?_
  refine Zht 6 U (ya U)<|ZHn<|Zxr<|Zr2<|Zr1<|Zre (.t U (.t U .n)) hS [] 3 ?_ U U U
  rotate_left
  refine Zsr<|Zb 3 U<|Zc 4 [] U U<|Zn<|Zib U (fun h90=>?_) (fun h90=>?_)
  refine Zsr<|Za 4 [4,1] U U<|Zk (c136 ..) [] U U<|Zq<|Zb 2 U<|Znl ?_
  refine Zxr<|Zr2<|Zr1<|Zre (.t U (.t U .n)) hS [] 3 ?_ U U U
  rotate_left
  refine Zsr<|Zb 3 U<|Zc 12 [] U U<|Zn<|Zib U (fun h102=>?_) (fun h102=>?_)
  refine Zsr<|Zb 3 U<|Zk (c136 ..) [] U U<|Zq<|Zb 2 U<|Zn ?_
  refine Zrt<|Zr2<|Zr1<|Zre (.t U (.t U .n)) hS [] 3 ?_ U U U
  rotate_left
  refine Zsr<|Zb 3 U<|Zc 8 [] U U<|Zn<|Zib U (fun h121=>?_) (fun h121=>?_)
  refine Zsr<|Za 4 [0,0] U U<|Znr<|Zr2<|Zr1 ?_
  refine Zre (.t U (.t U .n)) hS [] 3 ?_ U U U
  rotate_left
  refine Zsr<|Zb 3 U<|Zn<|Zif U (fun h134=>?_) (fun h134=>?_)
  refine Zsr<|Za 3 [1,0] U U<|Zk (c137 ..) [] U U<|Zq<|Zb 2 U<|Zn ?_
  refine Zrt<|Zr2<|Zr1<|Zre (.t U (.t U .n)) hS [] 3 ?_ U U U
  rotate_left
  refine Zsr<|Zb 3 U<|Zn<|Zif U (fun h141=>?_) (fun h141=>?_)
  refine Zsr<|Za 2 [0,2] U U<|Zv (ycv Tryz.underlying3 Tryz.underlying40 U U)<|Zb 2 U<|Znr<|Zr2 ?_
  refine Zr1<|Zre (.t U (.t U .n)) hS [] 3 ?_ U U U
  rotate_left
  refine Zsk<|Zxn<|Zxs<|Zb 2 U<|Znr<|Zre (.t U (.t U .n)) hS [] 3 ?_ U U U
  rotate_left
  all_goals simp only [Bool.or_eq_true,Bool.or_eq_false_iff,Bool.and_eq_true,Bool.and_eq_false_iff,decide_eq_true_eq,decide_eq_false_iff_not] at *
  all_goals first
    | (refine tqV (va_t (by omega) ?_)
       first
       | rw [if_pos (by omega)]
       | rw [if_neg (by omega)])
    | (refine tqN ((va_g (by omega)).trans ?_)
       unfold valG
       repeat (first | rw [if_neg (by omega)] | rw [if_pos (by omega)]))
    | (refine tqV ((va_g (by omega)).trans ?_)
       unfold valG
       repeat (first | rw [if_neg (by omega)] | rw [if_pos (by omega)])
       done)
    | exact absurd h65.1 (by omega)
    | (refine tqV ((va_b hx h65.1).trans ?_);rw [if_pos h65.2])
    | (refine tqV ((va_h hx h73.1).trans ?_);rw [if_pos h73.2])
    | exact tqV (va_w hx h78)
    | (refine tqV ?_
       rcases h47 with d | d
       · rw [va_b hx d,if_neg (by omega)]
       · rw [va_h hx d,if_neg (by omega)])
end Go.Proofs.YtpfijldkkfiooaaGreatDoor
