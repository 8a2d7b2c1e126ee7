/-
  Part 7 of what the claim stands on: walks through the code, plain laws.
-/
import Derived.Test.YtpfijldkkfiooaaGreatDoorZHA6
set_option linter.unusedVariables false
set_option linter.unusedSimpArgs false
namespace Go.Proofs.YtpfijldkkfiooaaGreatDoor.Ch
open Go Go.RowKit
set_option linter.unusedVariables false
def roleE (x:ER):Nat × Int:=(if x.1=4∨x.1=5∨x.1=11 then 0 else if x.1=6∨x.1=12 then 1 else 2,x.2.1)
theorem role_er (m:Msg):role m=(er m).map roleE:=by
 unfold role er
 by_cases h:4≤m.kind∧m.kind≤13∧m.kind≠7
 ·rw [if_pos h]
  obtain hk | hk | hk | hk | hk | hk | hk | hk | hk:m.kind=4∨m.kind=5∨m.kind=6∨m.kind=8∨m.kind=9∨m.kind=10∨m.kind=11∨m.kind=12∨m.kind=13:=by omega
  all_goals simp [hk,roleE]
 ·rw [if_neg h]
  (repeat' rw [if_neg (by omega)])
  rfl
theorem roles_wn (n:Int) (way:List Msg):rolesOf n way=((wn n way).flatMap er).map roleE:=by
 induction way with
 | nil=>rfl
 | cons m r ih=>
  rw [roles_cons,wn_cons,ih]
  unfold rl
  split
  ·rw [List.flatMap_cons,List.map_append,role_er]
  ·rfl
section
variable {M:Int} {d:Ent} {mem cur:B16} {v:Int→CV} {R:List ER} {G:Int→List Bool} {P:Int→List B16} {A:Int→List Unit}
theorem LI.exp (h:LI M d mem cur v R G P A) (hk:d.busy=true→d.kind=1∨d.kind=2):Exp d (R.map roleE):=by
 obtain ⟨R',sv,hp,hph,_⟩:=h.ph
 refine Exp.perm ?_ (hp.map roleE).symm
 cases hph with
 | idleO a=>exact .inl ⟨a,rfl⟩
 | idleS a=>exact .inl ⟨a,rfl⟩
 | fwd a b c e=>
  refine .inr (.inr (.inl ⟨a,b,c,e,?_⟩))
  rcases hk a with h | h <;> simp [roleE,h]
 | back a b c e=>exact .inr (.inr (.inl ⟨a,b,c,e,by simp [roleE]⟩))
 | drops C a b c k _ nd len w x y=>
  refine .inr (.inr (.inr ⟨a,b,c,w,C.map Prod.fst,?_,nd,by rw [List.length_map];exact len,fun z hz=>?_⟩))
  ·rw [List.map_map,List.map_map]
   have:(roleE ∘ fun x:Int × Bool=>((if x.2 then 12 else 6:Int),x.1,b16z))=(Prod.mk 1 ∘ Prod.fst):=by
    funext x
    obtain ⟨c,t⟩:=x
    cases t <;> simp [roleE]
   rw [this]
  ·obtain ⟨y,hy,rfl⟩:=List.mem_map.1 hz
   exact ⟨(x y hy).1,(x y hy).2.1⟩
 | dataO k a b c e f g=>exact .inr (.inl ⟨a,b,by rcases g with ⟨h,_⟩ | ⟨h,_⟩ <;> simp [roleE,h]⟩)
 | dataS a b=>exact .inr (.inl ⟨a,b,by simp [roleE]⟩)
 | doneO a b=>exact .inr (.inl ⟨a,b,by simp [roleE]⟩)
 | doneS a b=>exact .inr (.inl ⟨a,b,by simp [roleE]⟩)
theorem LI.few (h:LI M d mem cur v R G P A):R.length≤4:=by
 obtain ⟨R',sv,hp,hph,_⟩:=h.ph
 rw [hp.length_eq]
 cases hph with
 | drops C a b c k s nd len w x y=>
  rw [List.length_map,← List.length_map Prod.fst]
  refine nodup_sub _ [0,1,2,3] nd fun z hz=>?_
  obtain ⟨y,hy,rfl⟩:=List.mem_map.1 hz
  have:=sh_get_rng (x y hy).1
  simp
  omega
 | _=>simp
theorem LI.quiet (h:LI M d mem cur v [] G P A):d.busy=false:=by
 obtain ⟨R',sv,hp,hph,_⟩:=h.ph
 have hl:=hp.length_eq
 cases hph with
 | idleO a=>exact a
 | idleS a=>exact a
 | drops C a b c k s nd len w x y=>
  rw [List.length_map] at hl
  have:C.length=0:=hl.symm
  omega
 | _=>simp at hl
theorem LI.asker {k z:Int} {b:B16} (h:LI M d mem cur v ((k,z,b)::R) G P A) (hkd:d.busy=true→d.kind=1∨d.kind=2) (hk:k=4∨k=5∨k=6):∃ r,(0≤r∧r<M)∧z≠r∧(v r).a=some (decide (d.kind=2))∧(k=6→d.kind=2):=by
 obtain ⟨R',sv,hp,hph,ht⟩:=h.ph
 have hin:=er_in hp
 have fin:d.busy=true→sv=true→z≠d.asks→(k=6→d.kind=2)→∃ r,(0≤r∧r<M)∧z≠r∧(v r).a=some (decide (d.kind=2))∧(k=6→d.kind=2):=by
  intro hb hs hz h6
  have hr:=h.ask hb
  refine ⟨d.asks,hr,hz,?_,h6⟩
  have:=(ht _ hr.1 hr.2).ask
  unfold Wait at this
  rw [if_pos ⟨hs,rfl⟩] at this
  cases ha:(v d.asks).a with
  | none=>rw [ha] at this;simp at this
  | some w=>
   rw [ha] at this
   have h2:=congrArg List.length this
   simp at h2
   rw [h2] at this
   simp at this
   rw [this]
 cases hph with
 | idleO a=>cases hin
 | idleS a=>cases hin
 | fwd a b c e f=>
  simp only [List.mem_singleton,Prod.mk.injEq] at hin
  have:=hkd a
  exact fin a rfl (by rw [hin.2.1];exact f) (fun h=>by omega)
 | back a b c e f=>simp at hin;omega
 | drops C a b c kk s nd len w x y=>
  obtain ⟨q,hq,hq'⟩:=List.mem_map.1 hin
  simp only [Prod.mk.injEq] at hq'
  exact fin a rfl (by rw [← hq'.2.1];exact (x q hq).2.1) fun _=>kk
 | dataO k' a b c e f g=>simp only [List.mem_singleton,Prod.mk.injEq] at hin;omega
 | dataS a=>simp at hin;omega
 | doneO a=>simp at hin;omega
 | doneS a=>simp at hin;omega
end
theorem GM.cases {M:Int} {N:Nat} {m:Msg} (g:GM M N m):(m.dst=4∧(0≤m.src∧m.src<M)∧((1≤m.kind∧m.kind≤3)∨(11≤m.kind∧m.kind≤13)))∨((0≤m.dst∧m.dst<M)∧(4≤m.kind∧m.kind≤10)):=by
 by_cases hd:m.dst=4
 ·exact .inl ⟨hd,line_home g hd⟩
 ·rcases g.rng with ⟨h,_⟩ | ⟨_,h⟩
  ·exact absurd h hd
  ·exact .inr h
theorem GM.good {M:Int} {N:Nat} {m:Msg} (g:GM M N m) (hM:M≤4):Good N m:=by
 refine ⟨g.line,?_⟩
 have hb:bytesK m.kind=true∨m.bs=b16z:=by
  have:=g.chk
  unfold Go.Proofs.YtpfijldkkfiooaaGreatDoor.chk at this
  split at this
  ·rename_i h
   unfold goodMsg at h
   simp at h
   exact h.2
  ·cases this
 rcases g.cases with ⟨h1,h2,h3 | h3⟩ | ⟨h1,h2⟩
 ·refine .inl ⟨h3,h1,by omega,?_⟩
  rcases hb with h | h
  ·unfold bytesK at h;simp at h;omega
  ·exact .inr h
 ·refine .inr (.inr ⟨h3,h1,by omega,?_⟩)
  rcases hb with h | h
  ·unfold bytesK at h;simp at h;omega
  ·exact .inr h
 ·exact .inr (.inl ⟨h2,by omega⟩)
theorem sumF_add {α:Type} (f g:α→Nat) (l:List α):sumF (fun x=>f x+g x) l=sumF f l+sumF g l:=by
 induction l with
 | nil=>rfl
 | cons x r ih=>rw [sumF_cons,sumF_cons,sumF_cons,ih];omega
theorem le_sumF {α:Type} {f:α→Nat} {l:List α} {x:α} (h:x∈l):f x≤sumF f l:=by
 induction l with
 | nil=>cases h
 | cons y r ih=>
  rw [sumF_cons]
  rcases List.mem_cons.1 h with rfl | h
  ·omega
  ·have:=ih h;omega
def rng (M:Nat):List Int:=(List.range M).map fun i:Nat=>(i:Int)
theorem rng_mem {M:Nat} {c:Int} (h0:0≤c) (h1:c<M):c∈rng M:=List.mem_map.2 ⟨c.toNat,List.mem_range.2 (by omega),by omega⟩
theorem mem_rng {M:Nat} {c:Int} (h:c∈rng M):0≤c∧c<M:=by
 obtain ⟨i,hi,rfl⟩:=List.mem_map.1 h
 have:=List.mem_range.1 hi
 omega
theorem rng_len (M:Nat):(rng M).length=M:=by simp [rng]
def tc (g:List Bool) (p:List B16) (a:List Unit):Nat:=9*g.length+2*p.length+a.length
theorem tc_app (g g':List Bool) (p p':List B16) (a a':List Unit):tc (g++g') (p++p') (a++a')=tc g p a+tc g' p' a':=by
 unfold tc
 simp only [List.length_append]
 omega
theorem tc_ge (g:List Bool) (p:List B16) (a:List Unit):9*g.length≤tc g p a∧2*p.length≤tc g p a∧a.length≤tc g p a:=by unfold tc;omega
theorem cost_le {M N:Nat} {m:Msg} (g:GM M N m):cost m≤2*(er m).length+sumF (fun c=>tc (gt c m) (pt c m) (kt c m)) (rng M):=by
 rcases g.cases with ⟨h1,h2,h3 | h3⟩ | ⟨h1,h2⟩
 ·have hle:tc (gt m.src m) (pt m.src m) (kt m.src m)≤_:=le_sumF (f:=fun c=>tc (gt c m) (pt c m) (kt c m)) (rng_mem (M:=M) h2.1 (by omega))
  by_cases h:m.kind=3
  ·have e:(pt m.src m).length=1:=congrArg List.length (if_pos ⟨rfl,h⟩:pt m.src m=[m.bs])
   have:cost m=2:=by unfold cost;rw [if_neg (by omega),if_pos h]
   have ht:=tc_ge (gt m.src m) (pt m.src m) (kt m.src m)
   omega
  ·have e:(gt m.src m).length=1:=congrArg List.length (if_pos ⟨rfl,by omega⟩:gt m.src m=[decide (m.kind=2)])
   have:cost m=9:=by unfold cost;rw [if_pos (by omega)]
   have ht:=tc_ge (gt m.src m) (pt m.src m) (kt m.src m)
   omega
 ·have e:(er m).length=1:=by unfold er;rw [if_pos (by omega)];rfl
  have:=(cost_ans h3).1
  omega
 ·by_cases h:m.kind=7
  ·have hle:=le_sumF (f:=fun c=>tc (gt c m) (pt c m) (kt c m)) (rng_mem (M:=M) h1.1 (by omega))
   have e:(kt m.dst m).length=1:=congrArg List.length (if_pos ⟨rfl,h⟩:kt m.dst m=[()])
   have:cost m=1:=by unfold cost;rw [if_neg (by omega),if_neg (by omega),if_neg (by omega),if_pos (by omega)]
   have ht:=tc_ge (gt m.dst m) (pt m.dst m) (kt m.dst m)
   omega
  ·have e:(er m).length=1:=by unfold er;rw [if_pos (by omega)];rfl
   have:cost m=2:=by unfold cost;rw [if_neg (by omega),if_neg (by omega),if_pos (by omega)]
   omega
theorem qcost_le {M:Nat} {m:Msg} (h:1≤m.kind∧m.kind≤3) (h2:0≤m.src∧m.src<M):qcost m≤sumF (fun c=>tc (gt c m) (pt c m) []) (rng M):=by
 have hle:tc (gt m.src m) (pt m.src m) []≤_:=le_sumF (f:=fun c=>tc (gt c m) (pt c m) []) (rng_mem (M:=M) h2.1 (by omega))
 unfold qcost
 by_cases h:m.kind=3
 ·have e:(pt m.src m).length=1:=congrArg List.length (if_pos ⟨rfl,h⟩:pt m.src m=[m.bs])
  rw [if_pos h]
  have ht:=tc_ge (gt m.src m) (pt m.src m) []
  omega
 ·have e:(gt m.src m).length=1:=congrArg List.length (if_pos ⟨rfl,by omega⟩:gt m.src m=[decide (m.kind=2)])
  rw [if_neg h]
  have ht:=tc_ge (gt m.src m) (pt m.src m) []
  omega
theorem costs_le {M N:Nat}:∀ (l:List Msg),(∀ m∈l,GM M N m)→sumF cost l≤2*(l.flatMap er).length+sumF (fun c=>tc (l.flatMap (gt c)) (l.flatMap (pt c)) (l.flatMap (kt c))) (rng M)
 | [],_=>by rw [sumF_nil];omega
 | m::r,h=>by
  have h1:=cost_le (h m (List.mem_cons_self ..))
  have h2:=costs_le r fun x hx=>h x (List.mem_cons_of_mem _ hx)
  have e:(fun c=>tc ((m::r).flatMap (gt c)) ((m::r).flatMap (pt c)) ((m::r).flatMap (kt c)))=fun c=>tc (gt c m) (pt c m) (kt c m)+tc (r.flatMap (gt c)) (r.flatMap (pt c)) (r.flatMap (kt c)):=by
   funext c
   rw [List.flatMap_cons,List.flatMap_cons,List.flatMap_cons,tc_app]
  rw [e,sumF_add,sumF_cons,List.flatMap_cons,List.length_append]
  omega
theorem qcosts_le {M:Nat}:∀ (l:List Msg),(∀ m∈l,(1≤m.kind∧m.kind≤3)∧(0≤m.src∧m.src<M))→sumF qcost l≤sumF (fun c=>tc (l.flatMap (gt c)) (l.flatMap (pt c)) []) (rng M)
 | [],_=>by rw [sumF_nil];omega
 | m::r,h=>by
  obtain ⟨a,b⟩:=h m (List.mem_cons_self ..)
  have h1:=qcost_le a b
  have h2:=qcosts_le r fun x hx=>h x (List.mem_cons_of_mem _ hx)
  have e:(fun c=>tc ((m::r).flatMap (gt c)) ((m::r).flatMap (pt c)) [])=fun c=>tc (gt c m) (pt c m) []+tc (r.flatMap (gt c)) (r.flatMap (pt c)) []:=by
   funext c
   rw [List.flatMap_cons,List.flatMap_cons]
   exact tc_app _ _ _ _ [] []
  rw [e,sumF_add,sumF_cons]
  omega
section
variable {cs:List CD} {h:HD} {way:List Msg} {last:Nat→B16} {k:Nat} {c:Int}
theorem SI.kd (s:SI cs h way last k) {n:Nat} (hn:n<h.E.length):(entOf h.E n).busy=true→(entOf h.E n).kind=1∨(entOf h.E n).kind=2:=fun hb=>by
 have:=(s.hi.2 n hn).1.ok.kind hb
 omega
theorem SI.sv (s:SI cs h way last k):Sv (k+(sumF cost way+sumF ecost h.E)) (0+(sumF pend way+sumF epend h.E)) k h way 0:=by
 have hM:(cs.length:Int)≤4:=by have:=s.len;omega
 refine ⟨s.hi,fun m hm=>(s.good m hm).good hM,fun n hn=>?_,Nat.le_refl _,rfl⟩
 rw [roles_wn]
 have hl:=s.li n hn
 unfold LS at hl
 exact hl.exp (s.kd hn)
end
section
variable {cs:List CD} {h:HD} {way rest:List Msg} {last:Nat→B16} {k:Nat} {m:Msg} {line c:Int}
theorem SI.eff (s:SI cs h way last k) (hp:way.Perm (m::rest)) (hd:m.dst≠4) :
  (∀ n:Int,n≠m.line→cvw (takeF (cat cs m.dst) m).1 n=cvw (cat cs m.dst) n) ∧
   ((avw (cat cs m.dst).ask m.line=some (decide (m.kind=10))∧(cvw (takeF (cat cs m.dst) m).1 m.line).s≠0∧(cvw (takeF (cat cs m.dst) m).1 m.line).a=none) ∨
    (∃ (r:Int) (w:Bool),(0≤r∧r<cs.length)∧m.dst≠r∧(vw cs m.line r).a=some w∧(m.kind=6→w=true)∧(cvw (takeF (cat cs m.dst) m).1 m.line).a=(cvw (cat cs m.dst) m.line).a) ∨
    ((cvw (takeF (cat cs m.dst) m).1 m.line).a=(cvw (cat cs m.dst) m.line).a∧(cvw (takeF (cat cs m.dst) m).1 m.line).s=(cvw (cat cs m.dst) m.line).s)):=by
 have hg:=s.good m (hp.symm.subset (List.mem_cons_self ..))
 obtain ⟨hrng,hk,hln,hL⟩:=s.atl hp hd
 have hmn:=m.hn
 have hline:m.line=((m.line.toNat:Nat):Int):=by omega
 obtain ⟨e1,e2,e3⟩:=s.hi.2 _ hln
 obtain ⟨hdo,hid⟩:=s.ok m.dst hrng.1 hrng.2
 have hto:m.dst=(cat cs m.dst).id:=hid.symm
 have hkd:=e1.ok.kind
 by_cases h8:m.kind=8∨m.kind=9∨m.kind=10
 ·have hkt:∀ c,kt c m=[]:=fun c=>kt_no (by omega)
  obtain ⟨_,ha,hgn,hbs,hli⟩:=data_li (m:=m) (hL.perm (List.Perm.refl _) (fun c=>List.Perm.refl _) (fun c=>List.Perm.refl _) (fun c=>by rw [hkt])) h8 hkd rfl _ rfl
  have ha':avw (cat cs m.dst).ask m.line=some (decide (m.kind=10)):=by rw [hline];exact ha
  obtain ⟨t1,t2⟩:=take_data hdo hg.chk hto h8 ha'
  rw [t1]
  refine ⟨fun n hn=>by rw [t2,if_neg hn],.inl ⟨ha',?_,?_⟩⟩
  ·rw [t2,if_pos rfl]
   show (if m.kind=8 then (1:Int) else 2)≠0
   split <;> decide
  ·rw [t2,if_pos rfl]
 have asker:m.kind=4∨m.kind=5∨m.kind=6→∃ (r:Int) (w:Bool),(0≤r∧r<cs.length)∧m.dst≠r∧(vw cs m.line r).a=some w∧(m.kind=6→w=true):=by
  intro h
  have he:er m=[(m.kind,m.dst,b16z)]:=er_one rfl (by omega) (if_pos (by omega)) (if_neg (by omega))
  rw [he] at hL
  obtain ⟨r,a,b,e,f⟩:=hL.asker (fun hb=>by have:=hkd hb;omega) h
  exact ⟨r,_,a,b,by rw [hline];exact e,fun h6=>by simp [f h6]⟩
 by_cases h4:m.kind=4∨m.kind=5
 ·have hkt:∀ c,kt c m=[]:=fun c=>kt_no (by omega)
  obtain ⟨r,w,a1,a2,a3,a4⟩:=asker (by omega)
  obtain ⟨_,hsh⟩:=share_li (m:=m) (hL.perm (List.Perm.refl _) (fun c=>List.Perm.refl _) (fun c=>List.Perm.refl _) (fun c=>by rw [hkt])) h4 hkd rfl b16z
  rcases hsh with ⟨hgv,hli⟩ | ⟨hgn,hw,hbc,hli⟩
  ·have hgv':gvw (cat cs m.dst).giv m.line=some (last m.line.toNat):=by rw [hline];exact hgv
   rw [take_share_g hg.chk hto h4 hgv']
   exact ⟨fun n _=>rfl,.inr (.inr ⟨rfl,rfl⟩)⟩
  ·have hgn':gvw (cat cs m.dst).giv m.line=none:=by rw [hline];exact hgn
   have hw':wr (stateOf (cat cs m.dst).L m.line):=by rw [hline];exact hw
   obtain ⟨L',t1,t2⟩:=take_share_w hg.chk hto h4 hgn' hw'
   rw [t1]
   exact ⟨fun n hn=>by rw [t2,if_neg hn],.inr (.inl ⟨r,w,a1,a2,a3,a4,by rw [t2,if_pos rfl];rfl⟩)⟩
 by_cases h6:m.kind=6
 ·have hkt:∀ c,kt c m=[]:=fun c=>kt_no (by omega)
  obtain ⟨r,w,a1,a2,a3,a4⟩:=asker (by omega)
  obtain ⟨_,hnw,hli⟩:=drop_li (m:=m) (hL.perm (List.Perm.refl _) (fun c=>List.Perm.refl _) (fun c=>List.Perm.refl _) (fun c=>by rw [hkt])) h6 hkd rfl b16z
  have hnw':¬ wr (stateOf (cat cs m.dst).L m.line):=by rw [hline];exact hnw
  obtain ⟨t1,t2⟩:=take_drop hg.chk hto h6 hnw'
  rw [t1]
  exact ⟨fun n hn=>by rw [t2,if_neg hn],.inr (.inl ⟨r,w,a1,a2,a3,a4,by rw [t2,if_pos rfl];rfl⟩)⟩
 ·have h7:m.kind=7:=by omega
  have her:er m=[]:=by unfold er;rw [if_neg (by omega)]
  rw [her,List.nil_append] at hL
  have hk1:kt m.dst m=[()]:=by unfold kt;rw [if_pos ⟨rfl,h7⟩]
  obtain ⟨hgn,hli⟩:=acked_li hL hrng (l:=(wn m.line.toNat rest).flatMap (kt m.dst)) (by show kt m.dst m++_=_;rw [hk1];rfl)
  have hgn':gvw (cat cs m.dst).giv m.line≠none:=by rw [hline];exact hgn
  obtain ⟨t1,t2⟩:=take_acked hg.chk hto h7 hgn'
  rw [t1]
  exact ⟨fun n hn=>by rw [t2,if_neg hn],.inr (.inr ⟨by rw [t2,if_pos rfl];rfl,by rw [t2,if_pos rfl];rfl⟩)⟩
theorem SI.quiet (s:SI cs h [] last k) {z:Int} (z0:0≤z) (z1:z<cs.length) (n:Int):(vw cs n z).a=none∧(vw cs n z).g=none:=by
 by_cases hn:0≤n∧n<h.E.length
 ·have hN:n.toNat<h.E.length:=by omega
  have hl:=s.li _ hN
  unfold LS at hl
  rw [show ((n.toNat:Nat):Int)=n by omega] at hl
  have hb:=hl.quiet
  have hq:=(s.hi.2 _ hN).2.1 hb
  have t:=(hl.idle hb).2.2 z z0 z1
  rw [hq] at t
  have ha:=t.ask
  unfold Wait at ha
  rw [if_neg (by simp)] at ha
  refine ⟨?_,?_⟩
  ·cases hx:(vw cs n z).a with
   | none=>rfl
   | some w=>rw [hx] at ha;cases ha
  ·rcases t.put with ⟨a,_⟩ | ⟨b,_,⟨a,_⟩ | ⟨_,a⟩⟩
   ·exact a
   ·cases a
   ·cases a
 ·have:=s.z z z0 z1 n hn
  exact this.2
theorem asks {d:CD} (ha:d.ask=none) (hg:d.giv=none) {line:Int} (hl:0≤line∧line<4294967296) (hs:stateOf d.L line=0) (pick:Int):(askF d line hl false pick).1.ask=some (line,false):=by
 unfold askF
 rw [if_neg (by rw [ha,hg];simp [mine]),if_neg (by rw [hs];simp)]
 split
 ·rfl
 ·rename_i x hv
  have:(outF d x).2.2=true:=by
   unfold outF
   split
   ·rfl
   ·rw [hg]
  rw [if_pos this]
end
def cs0 (many n:Nat) (ways:Int):List CD:=(List.range many).map fun i:Nat=>⟨i,n,ways,[],none,none⟩
theorem cs0_at {many n:Nat} {ways:Int} {i:Nat} (h:i<many):(cs0 many n ways).getD i cd0=⟨i,n,ways,[],none,none⟩:=by
 simp [cs0,List.getD,h]
theorem SI.init {many n:Nat} {ways:Int} (hm:1≤many∧many≤4) (hn:0<n∧n≤64∧1≤ways∧ways≤8) (bs:List Int):SI (cs0 many n ways) (home0 bs) [] (fun n=>lineB bs n) 0:=by
 have hlen:(cs0 many n ways).length=many:=by simp [cs0]
 have hat:∀ c:Int,0≤c→c<many→cat (cs0 many n ways) c=⟨c,n,ways,[],none,none⟩:=fun c h0 h1=>by
  have:=cat_nat (cs0 many n ways) c.toNat
  rw [cs0_at (by omega),show ((c.toNat:Nat):Int)=c by omega] at this
  exact this
 have hv:∀ c:Int,0≤c→c<many→∀ n':Int,vw (cs0 many n ways) n' c=⟨0,b16z,none,none⟩:=fun c h0 h1 n'=>by
  unfold vw
  rw [hat c h0 h1]
  rfl
 have he:∀ i,entOf (home0 bs).E i=ent0:=fun i=>entOf_rep _ _
 refine ⟨by rw [hlen];exact hm,fun c h0 h1=>?_,HI.home0 bs,fun m hm=>(by cases hm),fun i hi=>?_,fun i hi m hm=>?_,fun c h0 h1 n' _=>?_⟩
 ·rw [hlen] at h1
  rw [hat c h0 h1]
  exact ⟨DOk.new (by omega) hn,rfl⟩
 ·unfold LS
  rw [he,hlen]
  refine ⟨⟨[],false,List.Perm.refl _,.idleS rfl (by decide) ⟨rfl,fun c h0 h1 => .inl (by rw [hv c h0 h1])⟩,fun c h0 h1=>?_⟩,fun c h=>(sh0_none h).elim,by show (-1:Int)<_;omega,fun h=>by cases h⟩
  rw [hv c h0 h1]
  exact ⟨rfl,.inl ⟨rfl,rfl,rfl⟩,fun h=>absurd rfl h,fun w h => .inl rfl,.inl rfl⟩
 ·rw [he] at hm;cases hm
 ·rw [hlen] at h1
  have:=hv c h0 h1 n'
  unfold vw at this
  rw [this]
  exact ⟨rfl,rfl,rfl⟩
end Go.Proofs.YtpfijldkkfiooaaGreatDoor.Ch
namespace Go.Proofs.YtpfijldkkfiooaaGreatDoor
open Go Go.RowKit
set_option linter.unusedVariables false
theorem ch_st (L:List Ln) (n:Int):Ch.stateOf L n=stateOf L n:=rfl
theorem ch_out (d:CD) (x:Ln):Ch.outF d x=outF d x:=by unfold Ch.outF outF;split <;> rfl
theorem ch_mine (g:Option Ln) (l:Int):Ch.mine g l=mine g l:=by unfold Ch.mine mine;cases g <;> rfl
theorem ch_ask (d:CD) (line:Int) (h:U32 line) (wr:Bool) (pick:Int):Ch.askF d line h wr pick=askF d line h wr pick:=by
 unfold Ch.askF askF
 simp only [ch_mine,ch_st]
 split
 ·rfl
 ·split
  ·rfl
  ·cases vicL d.n d.ways d.L line pick with
   | none=>rfl
   | some x=>simp only [ch_out];rfl
theorem ch_evict (d:CD) (pick:Int):Ch.evictF d pick=evictF d pick:=by unfold Ch.evictF evictF;simp only [ch_out]
theorem ch_dok (d:CD) (m:Msg):Ch.dataOk d m=dataOk d m:=by unfold Ch.dataOk dataOk;cases d.ask <;> rfl
theorem ch_take (d:CD) (m:Msg):Ch.takeF d m=takeF d m:=by
 unfold Ch.takeF takeF
 simp only [ch_mine,ch_st,ch_dok]
 split
 ·rfl
 ·split
  ·unfold dataG
   simp only [Bool.and_eq_true,decide_eq_true_eq]
   rfl
  ·split
   ·have hb:Ch.takeF.backF d m=(match (if writesB (stateOf d.L m.line)=true then some (d.setL (if m.kind=4 then putL d.n d.ways d.L ((fndL d.L m.line).st 1) else dropL d.L (fndL d.L m.line).num),(fndL d.L m.line).bs) else none) with | some (d',bs)=>(d',[mkM 11 d.id 4 m.line bs m.hn],0) | none=>(d,[],220)):=by
     unfold Ch.takeF.backF
     simp only [ch_st]
     split <;> rfl
    unfold backG mine
    cases hg:d.giv with
    | none=>exact hb
    | some x=>
     by_cases hx:x.num=m.line
     ·simp [hx]
     ·simp only [hx,if_false,decide_false,Bool.false_eq_true]
      exact hb
   ·rfl
theorem ch_othK (sh:Sh) (r:Int):∀ k,Ch.othK sh r k=othK sh r k
 | 0=>rfl
 | k+1=>by unfold Ch.othK othK;rw [ch_othK sh r k]
theorem ch_oth (sh:Sh) (r:Int):Ch.othersF sh r=othersF sh r:=ch_othK sh r 4
theorem ch_setLn {bs:List Int} {n:Int} (h:n.toNat<bs.length/16) (b:B16):Ch.setLn bs n b=setLn bs n b:=by
 unfold Ch.setLn
 rw [if_neg (show ¬ bs.length/16≤n.toNat by omega)]
theorem ch_begin {bs:List Int} {m:Msg} (h:m.line.toNat<bs.length/16) (d:Ent):Ch.beginF bs d m=beginF bs d m:=by
 unfold Ch.beginF beginF
 simp only [ch_oth,ch_setLn h]
 rfl
theorem ch_drain:∀ (q:List Msg) (bs:List Int) (d:Ent),(∀ m∈q,m.line.toNat<bs.length/16)→Ch.drainF q bs d=drainF q bs d
 | [],bs,d,h=>rfl
 | m::r,bs,d,h=>by
  have e:=ch_begin (h m (.head _)) (d.setQ r)
  have hl:(beginF bs (d.setQ r) m).2.1.length=bs.length:=by rw [← e];exact Ch.begin_bs
  have i:=ch_drain r (beginF bs (d.setQ r) m).2.1 (beginF bs (d.setQ r) m).1 fun y hy=>by rw [hl];exact h y (.tail _ hy)
  have e1:Ch.drainF (m::r) bs d=if d.busy then (d.setQ (m::r),bs,[]) else ((Ch.drainF r (Ch.beginF bs (d.setQ r) m).2.1 (Ch.beginF bs (d.setQ r) m).1).1,(Ch.drainF r (Ch.beginF bs (d.setQ r) m).2.1 (Ch.beginF bs (d.setQ r) m).1).2.1,(Ch.beginF bs (d.setQ r) m).2.2++(Ch.drainF r (Ch.beginF bs (d.setQ r) m).2.1 (Ch.beginF bs (d.setQ r) m).1).2.2):=Ch.drain_cons
  rw [e1,e,i]
  exact Eq.refl (drainF (m::r) bs d)
section
variable {d:Ent} {m:Msg}
theorem stray11 (hk:m.kind=11):Ch.strayF d m = !backOk d m:=by
 by_cases a:d.waits<1 <;> by_cases b:d.o=m.src <;> cases c:d.busy <;> simp [Ch.strayF,backOk,hk,a,b,c] <;> omega
theorem stray12 (hk:m.kind=12):Ch.strayF d m = !ackOk d m:=by
 have e1:decide (0<d.waits) = !decide (d.waits<1):=by
  by_cases a:d.waits<1
  ·rw [dT a,dF (show ¬ 0<d.waits by omega)];rfl
  ·rw [dF a,dT (show 0<d.waits by omega)];rfl
 have e2:decide (d.o<0) = !decide (0≤d.o):=by
  by_cases a:d.o<0
  ·rw [dT a,dF (show ¬ 0≤d.o by omega)];rfl
  ·rw [dF a,dT (show 0≤d.o by omega)];rfl
 unfold Ch.strayF ackOk
 rw [hk,e1,e2]
 simp only [ne_eq,decide_not]
 cases d.busy <;> cases decide (d.waits<1) <;> cases decide (0≤d.o) <;> cases d.sh.get m.src <;> cases decide (m.src=d.asks) <;> rfl
theorem stray13 (hk:m.kind=13):Ch.strayF d m = !doneOk d m:=by
 cases c:d.busy <;> cases f:d.told <;> simp [Ch.strayF,doneOk,hk,c,f]
end
theorem ch_takeH {k:Nat} {h:HD} (hi:Ch.HI k h) (m:Msg):Ch.takeH h m=takeH h m:=by
 have hmn:=m.hn
 unfold Ch.takeH takeH
 by_cases h0:chk m≠0∨m.dst≠4
 ·rw [if_pos h0,if_pos h0]
 rw [if_neg h0,if_neg h0]
 by_cases h1:(h.E.length:Int)≤m.line
 ·rw [if_pos h1,if_pos h1]
 rw [if_neg h1,if_neg h1]
 have h2:chk m=0:=Decidable.not_not.1 fun h=>h0 (.inl h)
 have h3:m.dst=4:=Decidable.not_not.1 fun h=>h0 (.inr h)
 obtain ⟨hh,hs⟩:=Ch.chk_home h2 h3
 unfold homeK at hh
 simp only [Bool.or_eq_true,decide_eq_true_eq] at hh
 have hn:m.line.toNat<h.E.length:=by omega
 have hb:m.line.toNat<h.bs.length/16:=by rw [← hi.1];exact hn
 obtain ⟨e1,e2,e3⟩:=hi.2 _ hn
 have hq:∀ y∈(entOf h.E m.line.toNat).q,y.line.toNat<h.bs.length/16:=fun y hy=>by
  have:=(e1.ok.rest y hy).line
  omega
 dsimp only
 rw [show h.E.getD m.line.toNat ent0=entOf h.E m.line.toNat from rfl]
 generalize entOf h.E m.line.toNat=d at *
 by_cases hk:m.kind≤3
 ·rw [if_pos hk,if_neg (show ¬ m.kind=11 by omega),if_neg (show ¬ m.kind=12 by omega),if_neg (show ¬ m.kind=13 by omega)]
  unfold reqF
  by_cases hz:d.busy=true
  ·rw [if_pos hz,if_pos hz];rfl
  ·rw [if_neg hz,if_neg hz,ch_begin hb];rfl
 ·rw [if_neg hk]
  obtain hk' | hk' | hk':m.kind=11∨m.kind=12∨m.kind=13:=by omega
  ·rw [if_pos hk',stray11 hk']
   cases hok:backOk d m with
   | false=>rfl
   | true=>
    have hbz:d.busy=true:=by
     unfold backOk at hok
     simp only [Bool.and_eq_true] at hok
     exact hok.1.1
    show (({ bs:=(Ch.otherF h.bs d m).2.1,E:=h.E.set m.line.toNat (Ch.otherF h.bs d m).1 }:HD),(Ch.otherF h.bs d m).2.2,(0:Int))=putH h m (backH h.bs d m)
    by_cases hk1:d.kind=1
    ·rw [Ch.other_b1 hk' hk1,ch_setLn hb,show backH h.bs d m=((((ownF (d.setW 0) (-1)).setS ((sh0.set m.src true).set d.asks true))).setT true,setLn h.bs m.line m.bs,[sendM m 8 d.asks (lineB (setLn h.bs m.line m.bs) m.line)]) from if_neg (by omega)]
     rfl
    ·have hk2:d.kind=2:=by have:=e1.ok.kind hbz;omega
     rw [Ch.other_b2 hk' hk1,ch_setLn hb,show backH h.bs d m=(writeD (d.setW 0),setLn h.bs m.line m.bs,[sendM m 10 d.asks (lineB (setLn h.bs m.line m.bs) m.line)]) from if_pos hk2]
     rfl
  ·rw [if_neg (show ¬ m.kind=11 by omega),if_pos hk',stray12 hk']
   cases hok:ackOk d m with
   | false=>rfl
   | true=>
    show (({ bs:=(Ch.otherF h.bs d m).2.1,E:=h.E.set m.line.toNat (Ch.otherF h.bs d m).1 }:HD),(Ch.otherF h.bs d m).2.2,(0:Int))=putH h m (ackH h.bs d m)
    by_cases hw:d.waits=1
    ·rw [Ch.other_a1 hk' hw,show ackH h.bs d m=(writeD ((d.setS (d.sh.set m.src false)).setW (d.waits-1)),h.bs,[sendM m 10 d.asks (lineB h.bs m.line)]) from if_pos hw,show d.waits-1=0 by omega]
     rfl
    ·rw [Ch.other_a2 hk' hw,show ackH h.bs d m=((d.setS (d.sh.set m.src false)).setW (d.waits-1),h.bs,[]) from if_neg hw]
     rfl
  ·rw [if_neg (show ¬ m.kind=11 by omega),if_neg (show ¬ m.kind=12 by omega),if_pos hk',stray13 hk']
   cases hok:doneOk d m with
   | false=>rfl
   | true=>
    have ht:d.told=true:=by
     unfold doneOk at hok
     simp only [Bool.and_eq_true] at hok
     exact hok.1.2
    have hw:=e1.ok.told ht
    have hf:({ d with busy:=false,asks:=0,kind:=0,waits:=0,told:=false }:Ent)=d.fre:=by
     unfold Ent.fre
     rw [hw]
    show (({ bs:=(Ch.otherF h.bs d m).2.1,E:=h.E.set m.line.toNat (Ch.otherF h.bs d m).1 }:HD),(Ch.otherF h.bs d m).2.2,(0:Int))=putH h m (drainF d.q h.bs d.fre)
    rw [Ch.other_d hk',hf,ch_drain _ _ _ hq]
    rfl
def Rg (bs:List Int):Prop:=∀ a∈bs,0≤a∧a<256
section
variable {bs:List Int} {d:Ent} {m:Msg}
theorem Rg.set (h:Rg bs) (n:Int) (b:B16):Rg (Ch.setLn bs n b):=by
 unfold Ch.setLn
 split
 ·exact h
 ·unfold setLn setF
  intro a ha
  rcases List.mem_append.1 ha with ha | ha
  ·rcases List.mem_append.1 ha with ha | ha
   ·exact h a (List.mem_of_mem_take ha)
   ·exact b.2.2 a ha
  ·exact h a (List.mem_of_mem_drop ha)
theorem Rg.begin (h:Rg bs):Rg (Ch.beginF bs d m).2.1:=by
 unfold Ch.beginF
 dsimp only
 split
 ·show Rg (if d.o=m.src then Ch.setLn bs m.line m.bs else bs)
  split
  ·exact h.set _ _
  ·exact h
 ·split
  ·exact h
  ·split
   ·split <;> exact h
   ·split <;> exact h
theorem Rg.drain:∀ (q:List Msg) (bs:List Int) (d:Ent),Rg bs→Rg (Ch.drainF q bs d).2.1
 | [],bs,d,h=>h
 | m::r,bs,d,h=>by
  unfold Ch.drainF
  split
  ·exact h
  ·dsimp only
   exact Rg.drain r _ _ h.begin
theorem Rg.other (h:Rg bs):Rg (Ch.otherF bs d m).2.1:=by
 unfold Ch.otherF
 split
 ·exact Rg.drain _ _ _ h
 ·split
  ·dsimp only
   split <;> exact h.set _ _
  ·split <;> exact h
theorem Rg.take {h:HD} (hb:Rg h.bs) (m:Msg):Rg (Ch.takeH h m).1.bs∧(Ch.takeH h m).1.bs.length=h.bs.length:=by
 rcases Ch.take_cases h m with ⟨e,he,_⟩ | ⟨_,_,_,hn,hmn,x,hx,hc⟩
 ·rw [he];exact ⟨hb,rfl⟩
 ·rw [hx]
  rcases hc with ⟨_,_,_,rfl⟩ | ⟨_,_,_,rfl⟩ | ⟨_,_,rfl⟩
  ·exact ⟨hb,rfl⟩
  ·exact ⟨hb.begin,Ch.begin_bs⟩
  ·exact ⟨hb.other,Ch.other_bs⟩
end
end Go.Proofs.YtpfijldkkfiooaaGreatDoor
namespace Go.Proofs.YtpfijldkkfiooaaGreatDoor.Ch
open Go Go.RowKit
set_option linter.unusedVariables false
section
variable {M:Int} {d:Ent} {mem cur:B16} {v:Int→CV} {R:List ER} {G:Int→List Bool} {P:Int→List B16} {A:Int→List Unit}
theorem LI.nine (h:LI M d mem cur v R G P A) {c:Int} (h0:0≤c) (h1:c<M):tc (G c) (P c) (A c)≤9:=by
 obtain ⟨R',sv,hp,hph,ht⟩:=h.ph
 have t:=ht c h0 h1
 have e:=congrArg List.length t.ask
 rw [List.length_append] at e
 unfold tc
 rcases t.put with ⟨_,a,b⟩ | ⟨b,hb,hab⟩
 ·rw [a,b]
  have e2:(v c).a.toList.length≤1:=by cases (v c).a <;> simp
  simp only [List.length_nil]
  omega
 ·have ha:=(t.giv (by rw [hb];simp)).2
  have e2:(v c).a.toList.length=0:=by rw [ha];rfl
  rcases hab with ⟨a1,a2⟩ | ⟨a1,a2⟩
  ·rw [a1,a2]
   simp only [List.length_nil,List.length_cons]
   omega
  ·rw [a1,a2]
   simp only [List.length_nil,List.length_cons]
   omega
end
theorem len_sum {α:Type} {f:α→Nat}:∀ {l:List α},(∀ x∈l,1≤f x)→l.length≤sumF f l
 | [],_=>Nat.le_refl _
 | x::r,h=>by
  have h1:=h x (List.mem_cons_self ..)
  have h2:=len_sum (l:=r) fun y hy=>h y (List.mem_cons_of_mem _ hy)
  rw [sumF_cons,List.length_cons]
  omega
theorem sum_one (c k:Nat):∀ N,sumF (fun n:Nat=>if k=n then c else 0) (List.range N)=if k<N then c else 0
 | 0=>by rw [if_neg (show ¬ k<0 by omega)];rfl
 | N+1=>by
  rw [List.range_succ,sumF_app,sum_one c k N,sumF_cons,sumF_nil]
  by_cases h:k=N
  ·rw [if_neg (show ¬ k<N by omega),if_pos h,if_pos (show k<N+1 by omega)];omega
  ·by_cases h2:k<N
   ·rw [if_pos h2,if_neg h,if_pos (show k<N+1 by omega)];omega
   ·rw [if_neg h2,if_neg h,if_neg (show ¬ k<N+1 by omega)]
theorem wn_sums:∀ (N:Nat) (l:List Msg),(∀ m∈l,m.line.toNat<N)→sumF cost l=sumF (fun n:Nat=>sumF cost (wn n l)) (List.range N)
 | N,[],_=>by
  have:sumF (fun n:Nat=>sumF cost (wn n [])) (List.range N)=0*(List.range N).length:=sumF_eq fun n _=>rfl
  rw [this,Nat.zero_mul];rfl
 | N,m::r,h=>by
  have h1:=h m (List.mem_cons_self ..)
  have h2:=wn_sums N r fun x hx=>h x (List.mem_cons_of_mem _ hx)
  have hm:=m.hn
  have e:(fun n:Nat=>sumF cost (wn n (m::r)))=fun n:Nat=>(if m.line.toNat=n then cost m else 0)+sumF cost (wn n r):=by
   funext n
   rw [wn_cons]
   by_cases hn:m.line=(n:Int)
   ·rw [if_pos hn,if_pos (show m.line.toNat=n by omega),sumF_cons]
   ·rw [if_neg hn,if_neg (show ¬ m.line.toNat=n by omega),Nat.zero_add]
  rw [e,sumF_add,sum_one,if_pos h1,sumF_cons,h2]
theorem ents_sum (f:Ent→Nat) (E:List Ent):sumF f E=sumF (fun n:Nat=>f (entOf E n)) (List.range E.length):=by
 have e:(List.range E.length).map (fun n=>entOf E n)=E:=by
  refine List.ext_getElem (by simp) fun i h1 h2=>?_
  simp [entOf,List.getD,h2]
 have e2:sumF f ((List.range E.length).map fun n=>entOf E n)=sumF (fun n:Nat=>f (entOf E n)) (List.range E.length):=by
  unfold sumF
  rw [List.map_map]
  rfl
 rw [← e2,e]
section
variable {cs:List CD} {h:HD} {way:List Msg} {last:Nat→B16} {k:Nat}
theorem SI.line46 (s:SI cs h way last k) {n:Nat} (hn:n<h.E.length):sumF cost (wn n way)+ecost (entOf h.E n)≤46:=by
 have hl:=s.li n hn
 unfold LS at hl
 have h1:=costs_le (M:=cs.length) (N:=h.E.length) (wn n way) fun m hm=>s.good m (List.mem_filter.1 hm).1
 have h2:=qcosts_le (M:=cs.length) (entOf h.E n).q fun m hm=>by
  have h3:=(s.hi.2 n hn).1.ok.rest m hm
  exact ⟨h3.kind,h3.src.1,by have:=s.q n hn m hm;omega⟩
 have h3:=hl.few
 have h4:sumF (fun c=>tc ((wn n way).flatMap (gt c)) ((wn n way).flatMap (pt c)) ((wn n way).flatMap (kt c))) (rng cs.length)+sumF (fun c=>tc ((entOf h.E n).q.flatMap (gt c)) ((entOf h.E n).q.flatMap (pt c)) []) (rng cs.length)≤9*(rng cs.length).length:=by
  rw [← sumF_add]
  refine sumF_le fun c hc=>?_
  have hc:=mem_rng hc
  rw [← tc_app,List.append_nil]
  exact hl.nine (c:=c) hc.1 hc.2
 rw [rng_len] at h4
 have:=s.len
 have h6:ecost (entOf h.E n)≤2+sumF qcost (entOf h.E n).q:=by
  unfold ecost
  split <;> omega
 omega
theorem SI.qlen (s:SI cs h way last k) {n:Nat} (hn:n<h.E.length):(entOf h.E n).q.length≤36:=by
 have hl:=s.li n hn
 unfold LS at hl
 have h2:=qcosts_le (M:=cs.length) (entOf h.E n).q fun m hm=>by
  have h3:=(s.hi.2 n hn).1.ok.rest m hm
  exact ⟨h3.kind,h3.src.1,by have:=s.q n hn m hm;omega⟩
 have h3:(entOf h.E n).q.length≤sumF qcost (entOf h.E n).q:=len_sum fun m _=>by unfold qcost;split <;> omega
 have h4:sumF (fun c=>tc ((entOf h.E n).q.flatMap (gt c)) ((entOf h.E n).q.flatMap (pt c)) []) (rng cs.length)≤9*(rng cs.length).length:=by
  refine sumF_le fun c hc=>?_
  have hc:=mem_rng hc
  have h9:=hl.nine (c:=c) hc.1 hc.2
  unfold tc at h9 ⊢
  simp only [List.length_append,List.length_nil] at h9 ⊢
  omega
 rw [rng_len] at h4
 have:=s.len
 omega
theorem SI.norm (s:SI cs h way last k):SI cs h way last 36:=⟨s.len,s.ok,⟨s.hi.1,fun n hn=>⟨(s.hi.2 n hn).1,(s.hi.2 n hn).2.1,s.qlen hn⟩⟩,s.good,s.li,s.q,s.z⟩
theorem SI.phiN (s:SI cs h way last k):sumF cost way+sumF ecost h.E≤46*h.E.length:=by
 rw [wn_sums h.E.length way fun m hm=>(s.good m hm).line,ents_sum ecost h.E,← sumF_add]
 have:=sumF_le (f:=fun n:Nat=>sumF cost (wn n way)+ecost (entOf h.E n)) (k:=46) (l:=List.range h.E.length) fun n hn=>s.line46 (List.mem_range.1 hn)
 rwa [List.length_range] at this
theorem SI.count (s:SI cs h way last k) (hE:h.E.length≤8):way.length≤368:=by
 have hM:(cs.length:Int)≤4:=by have:=s.len;omega
 have h1:=len_sum (f:=cost) (l:=way) fun m hm=>((s.good m hm).good hM).cost
 have h2:=s.phiN
 omega
end
end Go.Proofs.YtpfijldkkfiooaaGreatDoor.Ch
namespace Go.Proofs.YtpfijldkkfiooaaGreatDoor
open Go Go.RowKit
set_option linter.unusedVariables false
theorem sends_all:∀ (ms q:List Msg),(∀ m∈ms,chk m=0)→q.length+ms.length≤1024→sendsF 1024 q ms=q++ms
 | [],q,_,_=>(List.append_nil q).symm
 | m::r,q,h,hl=>by
  rw [List.length_cons] at hl
  have e:sendF 1024 q m=(q++[m],0):=by
   unfold sendF
   rw [if_neg (by rw [h m (.head _)];decide),if_neg (show ¬ (1024:Int)≤q.length by omega)]
  show sendsF 1024 (sendF 1024 q m).1 r=_
  rw [e,sends_all r (q++[m]) (fun y hy=>h y (.tail _ hy)) (by rw [List.length_append,List.length_singleton];omega),List.append_assoc]
  rfl
theorem cat_at {D:List CD} {i:Nat} {d:CD} (h:D[i]? = some d):Ch.cat D (i:Int)=d:=by
 rw [Ch.cat_nat]
 simp [List.getD,h]
theorem at_lt {D:List CD} {i:Nat} {d:CD} (h:D[i]? = some d):(i:Int)<D.length:=by
 have:=(List.getElem?_eq_some_iff.1 h).1
 omega
theorem cat_get {D:List CD} {c:Int} (h0:0≤c) (h1:c<D.length):D[c.toNat]? = some (Ch.cat D c):=by
 have h2:c.toNat<D.length:=by omega
 unfold Ch.cat
 rw [if_pos h0]
 simp [List.getD,h2]
theorem set_sm {D:List CD} {i:Nat} {d:CD} (h:D[i]? = some d):D.set i d=D:=by
 have:=Ch.set_cat (cs:=D) (c:=(i:Int)) (by omega)
 rwa [cat_at h,Int.toNat_natCast] at this
theorem DOk.wr {d:CD} (h:Ch.DOk d) {x:Ln} (hx:getN d.L x.num≠none) (he:putE d.n d.ways d.L x=0):Ch.DOk (d.setL (putL d.n d.ways d.L x)):=
 ⟨h.id,h.bd,h.uniq.putL,h.fits.putL _,fun l wr hl=>by
  show Ch.HasRoom d.n d.ways (putL d.n d.ways d.L x) l
  rw [Ch.putL_there hx he]
  exact (h.room l wr hl).repl hx,h.st.putL _⟩
section
variable {D:List CD} {h:HD} {q rest:List Msg} {last:Nat→B16} {k i:Nat} {d:CD} {x:Msg}
theorem sends_si {ms:List Msg} (s:Ch.SI D h (q++ms) last k) (h8:h.E.length≤8):sendsF 1024 q ms=q++ms:=
 sends_all ms q (fun m hm=>(s.good m (List.mem_append_right _ hm)).chk) (by have:=s.count h8;rw [List.length_append] at this;omega)
theorem si_ask (s:Ch.SI D h q last k) (hi:D[i]? = some d) {line:Int} (hl:U32 line) (hN:line.toNat<h.E.length) (wr:Bool) (pick:Int):Ch.SI (D.set i (askF d line hl wr pick).1) h (q++(askF d line hl wr pick).2.1) last k:=by
 have:=s.ask (c:=(i:Int)) (by omega) (at_lt hi) hl hN wr pick
 rwa [cat_at hi,ch_ask,Int.toNat_natCast] at this
theorem si_evict (s:Ch.SI D h q last k) (hi:D[i]? = some d) (pick:Int):Ch.SI (D.set i (evictF d pick).1) h (q++(evictF d pick).2) last k:=by
 have:=s.evict (c:=(i:Int)) (by omega) (at_lt hi) pick
 rwa [cat_at hi,ch_evict,Int.toNat_natCast] at this
theorem si_askA (s:Ch.SI D h q last k) (hi:D[i]? = some d) (a:Acc) (ha:U32 a.addr→(a.addr/16).toNat<h.E.length) (wr:Bool) (pick:Int):Ch.SI (D.set i (askA d a wr pick).1) h (q++(askA d a wr pick).2.1) last k:=by
 unfold askA
 split
 ·exact si_ask s hi _ (ha ‹_›) wr pick
 ·show Ch.SI (D.set i d) h (q++[]) last k
  rw [set_sm hi,List.append_nil]
  exact s
theorem si_take (s:Ch.SI D h q last k) (hp:q.Perm (x::rest)) (hd:x.dst≠4):∃ d,D[x.dst.toNat]? = some d∧Ch.cat D x.dst=d∧(4≤x.kind∧x.kind≤10)∧Ch.SI (D.set x.dst.toNat (takeF d x).1) h (rest++(takeF d x).2.1) last k:=by
 obtain ⟨hr,hz,hs⟩:=s.cache hp hd
 rw [ch_take] at hs
 exact ⟨_,cat_get hr.1 hr.2,rfl,(s.atl hp hd).2.1,hs⟩
theorem si_home (s:Ch.SI D h q last k) (hp:q.Perm (x::rest)) (hd:x.dst=4):Ch.SI D (takeH h x).1 (rest++(takeH h x).2.1) last (k+1)∧Ch.sumF Ch.cost (rest++(takeH h x).2.1)+Ch.sumF Ch.ecost (takeH h x).1.E+1≤Ch.sumF Ch.cost q+Ch.sumF Ch.ecost h.E∧(Rg h.bs→Rg (takeH h x).1.bs∧(takeH h x).1.bs.length=h.bs.length):=by
 rw [← ch_takeH s.hi x]
 refine ⟨(s.home hp hd).2,?_,fun hb=>hb.take x⟩
 have:=(s.sv.take hp hd).2.phi
 omega
theorem si_write (s:Ch.SI D h q last k) (hi:D[i]? = some d) (addr width v:Int):∃ last',Ch.SI (D.set i (writeF d addr width v).1) h q last' k:=by
 by_cases hr:rightA addr width=false
 ·refine ⟨last,?_⟩
  rw [show writeF d addr width v=(d,2) from if_pos hr]
  show Ch.SI (D.set i d) h q last k
  rw [set_sm hi]
  exact s
 by_cases hw:writesB (stateOf d.L (addr/16))=false
 ·refine ⟨last,?_⟩
  rw [show writeF d addr width v=(d,232) from (if_neg hr).trans (if_pos hw)]
  show Ch.SI (D.set i d) h q last k
  rw [set_sm hi]
  exact s
 have hw':writesB (Ch.stateOf d.L (addr/16))=true:=by rw [ch_st];simpa using hw
 have hwr:=(Ch.wrb _).1 hw'
 obtain ⟨y,hy1,hy2,hy3⟩:=Ch.there_of (L:=d.L) (n:=addr/16) (Ch.wr_ne hwr).1
 have hyn:=y.hn
 have h0:(0:Int)≤(i:Int):=by omega
 have h1:=at_lt hi
 have hN:=s.low h0 h1 (n:=addr/16) (by omega) (by rw [cat_at hi];exact (Ch.wr_ne hwr).1)
 have hn:addr/16=(((addr/16).toNat:Nat):Int):=by omega
 obtain ⟨hdo,hid⟩:=s.ok (i:Int) h0 h1
 rw [cat_at hi] at hdo hid
 have hxn:(wrLn y addr width v).num=addr/16:=hy3
 have hx:getN d.L (wrLn y addr width v).num≠none:=by rw [hxn,hy1];simp
 have hput:putE d.n d.ways d.L (wrLn y addr width v)=0:=Ch.putE_there hx (by show 1≤(3:Int)∧(3:Int)≤3;decide)
 have e:writeF d addr width v=(d.setL (putL d.n d.ways d.L (wrLn y addr width v)),0):=by
  unfold writeF
  rw [if_neg hr,if_neg hw,show fndL d.L (addr/16)=y from hy2,hput]
 have hli:=s.li _ hN
 unfold Ch.LS at hli
 rw [e]
 refine ⟨fun n=>if n=(addr/16).toNat then (wrLn y addr width v).bs else last n,?_⟩
 have hs1:(Ch.vw D (((addr/16).toNat:Nat):Int) (i:Int))=Ch.cvw d (((addr/16).toNat:Nat):Int):=by
  unfold Ch.vw
  rw [cat_at hi]
 have hg:=Ch.write_li hli ⟨h0,h1⟩ (by rw [hs1];show Ch.wr (Ch.stateOf d.L _);rw [← hn];exact hwr) (wrLn y addr width v).bs (s:=3) (.inr rfl)
 have hcv:Ch.cvw (d.setL (putL d.n d.ways d.L (wrLn y addr width v))) (((addr/16).toNat:Nat):Int)=⟨3,(wrLn y addr width v).bs,(Ch.vw D (((addr/16).toNat:Nat):Int) (i:Int)).g,(Ch.vw D (((addr/16).toNat:Nat):Int) (i:Int)).a⟩:=by
  rw [hs1]
  show (⟨Ch.stateOf (putL d.n d.ways d.L (wrLn y addr width v)) _,Ch.bvw (putL d.n d.ways d.L (wrLn y addr width v)) _,_,_⟩:Ch.CV)=_
  rw [Ch.state_put hput,Ch.bvw_put hput,hxn,if_pos hn.symm,if_pos hn.symm]
  rfl
 rw [← hcv] at hg
 have:=s.upd1 (c:=(i:Int)) (d':=d.setL (putL d.n d.ways d.L (wrLn y addr width v))) (last':=fun n=>if n=(addr/16).toNat then (wrLn y addr width v).bs else last n) (W:=q) h0 h1 (DOk.wr hdo hx hput) hid hN (fun j hj=>if_neg hj) (fun _ _=>List.Perm.refl _) s.good (fun j hj=>by
  rw [cat_at hi]
  show (⟨Ch.stateOf (putL d.n d.ways d.L (wrLn y addr width v)) j,Ch.bvw (putL d.n d.ways d.L (wrLn y addr width v)) j,_,_⟩:Ch.CV)=_
  rw [Ch.state_put hput,Ch.bvw_put hput,hxn,if_neg (by omega),if_neg (by omega)]
  rfl) (by
  show Ch.LI _ _ _ (if (addr/16).toNat=(addr/16).toNat then _ else _) _ _ _ _ _
  rw [if_pos rfl]
  exact hg)
 rwa [Int.toNat_natCast] at this
end
theorem take_cost {d:CD} {m:Msg} (hk:4≤m.kind∧m.kind≤10):Ch.sumF Ch.cost (takeF d m).2.1+1≤Ch.cost m:=by
 have hc:m.kind=7∧Ch.cost m=1∨m.kind≠7∧Ch.cost m=2:=by
  by_cases h7:m.kind=7
  ·refine .inl ⟨h7,?_⟩
   unfold Ch.cost
   (repeat' split) <;> omega
  ·refine .inr ⟨h7,?_⟩
   unfold Ch.cost
   (repeat' split) <;> omega
 have hz:Ch.sumF Ch.cost ([]:List Msg)+1≤Ch.cost m:=by rw [Ch.sumF_nil];omega
 have h1:∀ (k:Int) (b:B16),k=11∨k=12∨k=13→m.kind≠7→Ch.sumF Ch.cost [mkM k d.id 4 m.line b m.hn]+1≤Ch.cost m:=fun k b h h7=>by
  have e:Ch.sumF Ch.cost [mkM k d.id 4 m.line b m.hn]=1:=by rcases h with rfl | rfl | rfl <;> rfl
  omega
 unfold takeF
 split
 ·exact hz
 ·split
  ·rename_i hk8
   split
   ·exact h1 13 _ (.inr (.inr rfl)) (by omega)
   ·exact hz
  ·split
   ·rename_i hk4
    split
    ·exact h1 11 _ (.inl rfl) (by omega)
    ·exact hz
   ·split
    ·rename_i hk6
     split
     ·exact hz
     ·exact h1 12 _ (.inr (.inl rfl)) (by omega)
    ·split <;> exact hz
theorem back_less {d d':CD} {m:Msg} {bs:B16} (h:backG d m=some (d',bs)):d'.ask=d.ask∧d'.L.length≤d.L.length:=by
 unfold backG at h
 split at h
 ·cases h
  exact ⟨rfl,Nat.le_refl _⟩
 ·split at h
  ·rename_i hw
   cases h
   refine ⟨rfl,?_⟩
   show (if m.kind=4 then putL d.n d.ways d.L ((fndL d.L m.line).st 1) else dropL d.L (fndL d.L m.line).num).length≤d.L.length
   split
   ·have hw':writesB (Ch.stateOf d.L m.line)=true:=hw
    obtain ⟨y,hy1,hy2,hy3⟩:=Ch.there_of (L:=d.L) (n:=m.line) (Ch.wr_ne ((Ch.wrb _).1 hw')).1
    have hf:fndL d.L m.line=y:=hy2
    rw [hf]
    unfold putL
    split
    ·rw [if_neg (by show ¬ getN d.L y.num=none;rw [hy3,hy1];simp),repl_len]
     exact Nat.le_refl _
    ·exact Nat.le_refl _
   ·exact dropL_le _ _
  ·cases h
theorem take_less {d:CD} (ha:d.ask=none) (m:Msg):(takeF d m).1.ask=none∧(takeF d m).1.L.length≤d.L.length:=by
 have hz:d.ask=none∧d.L.length≤d.L.length:=⟨ha,Nat.le_refl _⟩
 unfold takeF
 split
 ·exact hz
 ·split
  ·split
   ·rename_i hg
    exact absurd hg (by simp [dataG,dataOk,ha])
   ·exact hz
  ·split
   ·split
    ·rename_i d' bs hb
     obtain ⟨h1,h2⟩:=back_less hb
     exact ⟨h1.trans ha,h2⟩
    ·exact hz
   ·split
    ·split
     ·exact hz
     ·exact ⟨ha,dropL_le _ _⟩
    ·split
     ·exact ⟨ha,Nat.le_refl _⟩
     ·exact hz
end Go.Proofs.YtpfijldkkfiooaaGreatDoor
namespace Go.Proofs.YtpfijldkkfiooaaGreatDoor.Ch
open Go Go.RowKit
set_option linter.unusedVariables false
section
variable {cs:List CD} {h:HD} {way rest:List Msg} {last:Nat→B16} {k:Nat} {m:Msg} {line c:Int}
theorem SI.eff10 (s:SI cs h way last k) (hp:way.Perm (m::rest)) (hd:m.dst≠4) (h10:m.kind=10):(cvw (takeF (cat cs m.dst) m).1 m.line).s=2:=by
 have hg:=s.good m (hp.symm.subset (List.mem_cons_self ..))
 obtain ⟨hrng,hk,hln,hL⟩:=s.atl hp hd
 have hmn:=m.hn
 have hline:m.line=((m.line.toNat:Nat):Int):=by omega
 obtain ⟨e1,e2,e3⟩:=s.hi.2 _ hln
 obtain ⟨hdo,hid⟩:=s.ok m.dst hrng.1 hrng.2
 have hto:m.dst=(cat cs m.dst).id:=hid.symm
 have h8:m.kind=8∨m.kind=9∨m.kind=10:=by omega
 have hkt:∀ c,kt c m=[]:=fun c=>kt_no (by omega)
 obtain ⟨_,ha,hgn,hbs,hli⟩:=data_li (m:=m) (hL.perm (List.Perm.refl _) (fun c=>List.Perm.refl _) (fun c=>List.Perm.refl _) (fun c=>by rw [hkt])) h8 e1.ok.kind rfl _ rfl
 have ha':avw (cat cs m.dst).ask m.line=some (decide (m.kind=10)):=by rw [hline];exact ha
 obtain ⟨t1,t2⟩:=take_data hdo hg.chk hto h8 ha'
 rw [t1,t2,if_pos rfl]
 show (if m.kind=8 then (1:Int) else 2)=2
 rw [if_neg (by omega)]
def JW (cs:List CD) (line c:Int):Prop:=
 (∀ z:Int,0≤z→z<cs.length→z≠c→(vw cs line z).a=none)∧((vw cs line c).a=some true∨((vw cs line c).a=none∧wr (vw cs line c).s))
theorem JW.cache (j:JW cs line c) (s:SI cs h way last k) (hp:way.Perm (m::rest)) (hd:m.dst≠4):JW (cs.set m.dst.toNat (takeF (cat cs m.dst) m).1) line c:=by
 obtain ⟨hrng,hk,hln,hL⟩:=s.atl hp hd
 obtain ⟨f1,f2⟩:=s.eff hp hd
 obtain ⟨j1,j2⟩:=j
 unfold JW
 rw [List.length_set,vw_set hrng.1 hrng.2]
 by_cases hl:line=m.line
 ·subst hl
  rcases f2 with ⟨a,b,e⟩ | ⟨r,w,hr,hne,ha,h6,e⟩ | ⟨e,f⟩
  ·have a':(vw cs m.line m.dst).a=some (decide (m.kind=10)):=a
   have hc:m.dst=c:=by
    by_cases h:m.dst=c
    ·exact h
    ·have:=j1 m.dst hrng.1 hrng.2 h
     rw [a'] at this
     cases this
   subst hc
   have h10:m.kind=10:=by
    rcases j2 with h | ⟨h,_⟩
    ·rw [a'] at h
     simpa using h
    ·rw [a'] at h
     cases h
   refine ⟨fun z z0 z1 hz=>by rw [upd_ne hz];exact j1 z z0 z1 hz,.inr ?_⟩
   rw [upd_same]
   exact ⟨e,.inl (s.eff10 hp hd h10)⟩
  ·have hc:r=c:=by
    by_cases h:r=c
    ·exact h
    ·rw [j1 r hr.1 hr.2 h] at ha;cases ha
   subst hc
   refine ⟨fun z z0 z1 hz=>?_,by rw [upd_ne (Ne.symm hne)];exact j2⟩
   by_cases h:z=m.dst
   ·subst h
    rw [upd_same,e]
    exact j1 _ z0 z1 hz
   ·rw [upd_ne h];exact j1 z z0 z1 hz
  ·have hu:∀ z,(updC (vw cs m.line) m.dst (cvw (takeF (cat cs m.dst) m).1 m.line) z).a=(vw cs m.line z).a∧(updC (vw cs m.line) m.dst (cvw (takeF (cat cs m.dst) m).1 m.line) z).s=(vw cs m.line z).s:=fun z=>by
    by_cases h:z=m.dst
    ·subst h
     rw [upd_same]
     exact ⟨e,f⟩
    ·rw [upd_ne h];exact ⟨rfl,rfl⟩
   refine ⟨fun z z0 z1 hz=>by rw [(hu z).1];exact j1 z z0 z1 hz,?_⟩
   rw [(hu c).1,(hu c).2]
   exact j2
 ·rw [f1 line hl,show cvw (cat cs m.dst) line=vw cs line m.dst from rfl,upd_self]
  exact ⟨j1,j2⟩
theorem askW {d:CD} (ha:d.ask=none) (hg:d.giv=none) {line:Int} (hl:0≤line∧line<4294967296) (hs:¬ writesB (stateOf d.L line)=true) (pick:Int):(askF d line hl true pick).1.ask=some (line,true):=by
 unfold askF
 rw [if_neg (by rw [ha,hg];simp [mine]),if_neg (by simp [hs])]
 split
 ·rfl
 ·rename_i x hv
  have:(outF d x).2.2=true:=by
   unfold outF
   split
   ·rfl
   ·rw [hg]
  rw [if_pos this]
theorem SI.none {d:CD} {i:Nat} (s:SI cs h [] last k) (hi:cs[i]? = some d):d.ask = .none∧d.giv = .none:=by
 have h1:=at_lt hi
 have q:=fun n=>s.quiet (z:=(i:Int)) (by omega) h1 n
 unfold vw at q
 rw [cat_at hi] at q
 constructor
 ·cases ha:d.ask with
  | none=>rfl
  | some y=>
   obtain ⟨l,w⟩:=y
   have h2:avw d.ask l = .none:=(q l).1
   rw [ha] at h2
   unfold avw at h2
   dsimp only at h2
   rw [if_pos rfl] at h2
   cases h2
 ·cases hg:d.giv with
  | none=>rfl
  | some x=>
   have h2:gvw d.giv x.num = .none:=(q x.num).2
   rw [hg] at h2
   unfold gvw at h2
   dsimp only at h2
   rw [if_pos rfl] at h2
   cases h2
theorem JW.init {d d':CD} {i:Nat} (s:SI cs h [] last k) (hi:cs[i]? = some d) (ha:d'.ask=some (line,true)):JW (cs.set i d') line i:=by
 have h1:=at_lt hi
 have e:=vw_set (cs:=cs) (c:=(i:Int)) (d:=d') (by omega) h1 line
 rw [Int.toNat_natCast] at e
 unfold JW
 rw [List.length_set,e]
 refine ⟨fun z z0 z1 hz=>?_,.inl ?_⟩
 ·rw [upd_ne hz]
  exact (s.quiet z0 z1 line).1
 ·rw [upd_same]
  show avw d'.ask line=some true
  rw [ha]
  unfold avw
  dsimp only
  rw [if_pos rfl]
theorem JW.done {d:CD} {i:Nat} (j:JW cs line i) (s:SI cs h [] last k) (hi:cs[i]? = some d):writesB (stateOf d.L line)=true:=by
 have h1:=at_lt hi
 have q:=(s.quiet (z:=(i:Int)) (by omega) h1 line).1
 rcases j.2 with a | ⟨_,a⟩
 ·rw [q] at a;cases a
 ·unfold vw at a
  rw [cat_at hi] at a
  exact (wrb _).2 a
end
end Go.Proofs.YtpfijldkkfiooaaGreatDoor.Ch
namespace Go.Proofs.YtpfijldkkfiooaaGreatDoor
open Go
set_option maxRecDepth 4000
theorem c18 (k b i:Nat) (m:MD) (hi:i<m.C.length):Sp Tryz.prog 18 [pt b,.int .i64 (i:Int)] [.hp (machC k b m)] fun K=>∀ b',K (.returned (pt b')) [.hp (corC k b' m.C[i]),.hp (machC k b m)]:=by
 refine Zen Tryz.func18 U U U fun e X Φ hS=>Zsr<|Zy U<|Znqs<|Zm U<|Zk (c35 ..) [0] U U<|Zq ?_
 refine Zb 6 U<|Zg U U ?_
 refine Za 3 [0] U U<|Zg U U ?_
 refine Zol 0 mach_op U<|fun bp=>Zv (yd 0 U U U)<|Za 2 [0] U U<|Zg U U ?_
 refine Zol 1 part_op U<|fun ok A cap B capb bn bh cb kb hl=>Zv (yd 0 U U U)<|Zg U U<|Zv (sl_of ⟨_,Tryz.underlying105⟩ U)<|Zb 2 U<|Zn<|Zcf' U (dF (by omega)) ?_
 refine Zks<|Za 7 [0,7,0,0] U U ?_
 refine Zm U<|Zv (yea 1 own.rd U U U (by first | assumption | omega) U Tryz.underlying105 U)<|Zv (yec (m:=0) 1 own.rd U (gE (by first | assumption | omega)) U U U) ?_
 have hci:=gE (l:=cb) (k:=i) (by omega)
 have hCi:=gE hi
 have hz:=zip_at hci hCi
 have hzl:i<(cb.zip m.C).length:=(List.getElem?_eq_some_iff.1 hz).1
 refine Zol 3 (cors_op hz) U<|Zk (c41 ..) [0] U U<|fun b'=>Zq<|Zy U<|Znr ?_
 refine Zfx [1,1] (cors_same hci hCi hzl) U ?_
 refine Zfx [2,2,2,0,1,1,1] (part_fold (m:=m) ok hl) U ?_
 refine Zfx [2,0] (mach_fold (m:=m)) U<|Zre (.t U .n) (hS _) [1,0] 0 U U U U
def MD.ca (m:MD) (i:Nat):CD:=m.D.getD i ⟨0,1,1,[],none,none⟩
theorem c22 (k b i:Nat) (m:MD) (hi:i<m.C.length):Sp Tryz.prog 22 [pt b,.int .i64 (i:Int)] [.hp (machC k b m)] fun K=>∀ b',K (.returned (pt b')) [.hp (cacC b' (m.ca i)),.hp (machC k b m)]:=by
 refine Zen Tryz.func22 U U U fun e X Φ hS=>Zsr<|Zy U<|Znqs<|Zm U<|Zk (c35 ..) [0] U U<|Zq ?_
 refine Zb 6 U<|Zg U U ?_
 refine Za 3 [0] U U<|Zg U U ?_
 refine Zol 0 mach_op U<|fun bp=>Zv (yd 0 U U U)<|Za 2 [1] U U<|Zg U U ?_
 refine Zol 1 part_op U<|fun ok A cap B capb bn bh cb kb hl=>Zv (yd 0 U U U)<|Zg U U<|Zv (sl_of ⟨_,Tryz.underlying106⟩ U)<|Zb 2 U<|Zn<|Zcf' U (dF (by omega)) ?_
 refine Zks<|Za 7 [0,7,1,0] U U ?_
 refine Zm U<|Zv (yea 2 own.rd U U U (by first | assumption | omega) U Tryz.underlying106 U)<|Zv (yec (m:=0) 2 own.rd U (gE (by first | assumption | omega)) U U U) ?_
 have hd:=ok.d
 have hki:=gE (l:=kb) (k:=i) (by omega)
 have hDi:=gE (l:=m.D) (k:=i) (by omega)
 have hz:=zip_at hki hDi
 have hzl:i<(kb.zip m.D).length:=(List.getElem?_eq_some_iff.1 hz).1
 have hg:m.ca i=m.D[i]'(by omega):=by unfold MD.ca;rw [List.getD_eq_getElem?_getD,hDi];rfl
 rw [hg] at hS
 refine Zol 4 (cacs_op hz) U<|Zk (c42 ..) [0] U U<|fun b'=>Zq<|Zy U<|Znr ?_
 refine Zfx [1,1] (cacs_same hki hDi hzl) U ?_
 refine Zfx [2,2,2,2,0,1,1] (part_fold (m:=m) ok hl) U ?_
 refine Zfx [2,0] (mach_fold (m:=m)) U<|Zre (.t U .n) (hS _) [1,0] 0 U U U U
theorem c24 (k b:Nat) (m:MD) (hk:k≤1000):Sp Tryz.prog 24 [pt b] [.hp (machC k b m)] fun K=>∀ b',K (.returned (pt b')) [.hp (homC k b' m.h),.hp (machC k b m)]:=by
 refine Zen Tryz.func24 U U U fun e X Φ hS=>Zsr<|Zy U<|Znqs<|Zm U<|Zk (c35 ..) [0] U U<|Zq ?_
 refine Zn<|Zcf U<|Zks<|Za 3 [0] U U ?_
 refine Zol 0 mach_op U<|fun bp=>Zv (yd 0 U U U)<|Za 2 [3] U U ?_
 refine Zol 1 part_op U<|fun ok A cap B capb bn bh cb kb hl=>Zv (yd 0 U U U) ?_
 refine Zk (c40 k bh m.h hk) [6] U U<|fun b'=>Zq<|Zy U<|Znr ?_
 refine Zfx [2,2,2,2,2,2,1] (part_fold (m:=m) ok hl) U ?_
 refine Zfx [2,0] (mach_fold (m:=m)) U<|Zre (.t U .n) (hS _) [1,0] 0 U U U U
theorem c19 (k b:Nat) (c:Cor):Sp Tryz.prog 19 [pt b] [.hp (corC k b c)] fun K=>∀ A cap,K (.returned (.slice A c.B.length cap)) [.hp (own stoE A cap c.B),.hp (corC k b c)]:=by
 refine Zen Tryz.func19 U U U fun e X Φ hS=>Zsr<|Zy U<|Znqs<|Zm U<|Zk (c53 ..) [0] U U<|Zq ?_
 refine Zn<|Zcf U<|Zks<|Za 3 [37] U U ?_
 refine Zol 0 cor_op U<|fun ok A cap bb pr hr=>Zv (yd 0 U U (nt_core 2 U U))<|Zk (c54 ..) [2] U U<|fun A_1=>fun cap_1=>Zq<|Zy U<|Znr ?_
 refine Zfx [2,2,1,1] (cor_fold (c:=c) ok) U<|Zre (.t U .n) (hS _ _) [1,0] 0 U U U U
structure VsI (l:List (Int × Value)) (p:List MapEntry):Prop where
 a:∀ s∈p,s∈esOf .u32 l
 d:p.Nodup
theorem es_nd {k:IntKind} {l:List (Int × Value)}:(esOf k l).Nodup:=by
 have:=es_born (k:=k) (l:=l)
 exact (List.pairwise_map.1 this).imp fun h e=>h (congrArg _ e)
theorem VsI.nil (l:List (Int × Value)):VsI l []:=⟨fun s h=>(by cases h),List.nodup_nil⟩
theorem VsI.len {l:List (Int × Value)} {p:List MapEntry} (h:VsI l p):p.length≤l.length:=by
 rw [← esOf_len .u32 l]
 classical exact nodup_le _ _ h.d h.a
theorem VsI.step {l:List (Int × Value)} {p:List MapEntry} (h:VsI l p) {s:MapEntry} (hs:s∈esOf .u32 l) (hn:s ∉ p):VsI l (p++[s]):=⟨fun x hx=>by
 rcases List.mem_append.1 hx with hx | hx
 ·exact h.a x hx
 ·rw [List.mem_singleton] at hx;subst hx;exact hs,List.nodup_append.2 ⟨h.d,List.nodup_cons.2 ⟨by simp,List.nodup_nil⟩,fun a ha b hb e=>by
  rw [List.mem_singleton] at hb
  exact hn (hb ▸ e ▸ ha)⟩⟩
theorem VsI.done {l:List (Int × Value)} {p:List MapEntry} (h:VsI l p) (hall:∀ s∈esOf .u32 l,s∈p):p.length=l.length:=by
 refine Nat.le_antisymm h.len ?_
 rw [← esOf_len .u32 l]
 classical exact nodup_le _ _ es_nd hall
abbrev unt (n:Nat):List Unit:=List.replicate n ()
theorem unt_pre {i n:Nat} (h:i<n):unt i++[()] <+: unt n:=⟨unt (n-i-1),by
 show List.replicate i ()++List.replicate 1 ()++List.replicate _ ()=_
 rw [List.replicate_append_replicate,List.replicate_append_replicate]
 congr 1
 omega⟩
theorem unt_snc (i:Nat):unt i++[()]=unt (i+1):=(List.replicate_succ').symm
theorem q108 (b1 r:Nat) (es:List (Nat × Nat)):SqR Tryz.prog 108 [pt b1] [.blk b1 156 [.map (some r)],mapC .u32 r (mp es)] (fun _=>[.blk b1 156 [.map (some r)],mapC .u32 r (mp es)]) (fun _ vs=>∃ x∈es,vs=[pt x.2]) (unt es.length):=by
 refine ⟨fun y J Jx hYd=>?_⟩
 refine Zen Tryz.func108 U U U fun e X Φ hS=>Zsr<|Zv (yd 1 U U U) ?_
 refine Ze (emr 2 U U Tryz.underlying156)<|fun it=>Zw<|Znb ?_
 have hML:(mp es).length=es.length:=by simp [mp]
 refine Zlq (ι:={ p:List MapEntry // VsI (mp es) p }) (fun _=>[(6,pt it),(0,.func (.yield y) #[] #[])]) (fun p=>[iterC it r (mp es) p.1,mapC .u32 r (mp es),.hp (J (unt p.1.length)),.blk b1 156 [.map (some r)]]) (fun p=>es.length-p.1.length) ⟨[],VsI.nil _⟩ ⟨U,U,trivial⟩ [0,2,0,0] U fun p=>Zsr ?_
 refine Ze (enx 0 1 U U U p.2.a) ⟨fun hall=>?_,fun s hs hns L' hL'=>?_⟩
 ·refine Zw ?_
  refine Zv (yx U U)<|Znq<|Zcf U<|Zex<|Zxt<|Zxt<|Zxx<|Zee ?_
  rw [p.2.done hall,hML]
  refine Zre .n hS.1 [2,2,1] 1 U U U U
 ·cases hL'
  refine Zw ?_
  refine Zv (yx U U)<|Znq<|Zct U<|Zkn<|Zbl<|Zsr ?_
  obtain ⟨x,hx,k1,k2,_⟩:=es_mem hs
  obtain ⟨⟨n,bn⟩,hm,rfl⟩:=List.mem_map.1 hx
  have k1':s.key = .int .u32 (n:Int):=k1
  have k2':s.val=pt bn:=k2
  have hstep:=p.2.step hs hns
  have hlen:=hstep.len
  rw [List.length_append,hML] at hlen
  have hlt:p.1.length<es.length:=hlen
  refine Zv (yen 0 1 U U U hs) ?_
  rw [k1',k2']
  refine Zb 2 U<|Zns<|Zb 2 U ?_
  refine Zyd (hYd (unt p.1.length) () (unt_pre hlt) _ ⟨(n,bn),hm,U⟩) 2 U U U ?_ ?_
  refine Zv (ynot U)<|Zn<|Zcf U<|Zsk<|Zxn ?_
  rotate_left
  refine Zv (ynot U)<|Zn<|Zct U<|Zrt<|Zr2<|Zr1<|Zr2 ?_
  rotate_left
  ·rw [show unt p.1.length++[()]=unt (p.1++[s]).length by rw [unt_snc,List.length_append];rfl]
   have hm:es.length-(p.1++[s]).length<es.length-p.1.length:=by rw [List.length_append];show es.length-(p.1.length+1)<_;omega
   refine Zlr ⟨p.1++[s],hstep⟩ hm ⟨U,U,trivial⟩ [1,1,0,0] 0 U U
  ·refine Zre .n (hS.2 _ (unt_pre hlt)) [0,2,1] 1 U U U U
theorem c64 (r:Nat) (es:List (Nat × Nat)):Sp Tryz.prog 64 [.map (some r)] [mapC .u32 r (mp es)] fun K=>∀ b1,K (.returned (.func (.func 108) #[] #[pt b1])) [.blk b1 156 [.map (some r)],mapC .u32 r (mp es)]:=by
 refine Zen Tryz.func64 U U U fun e X Φ hS=>Zsr<|Ze (ebx U) fun b1=>Zw<|Zy U<|Zns<|Zv (yfn U U)<|Zy U<|Znl ?_
 refine Zxr<|Zre (.t U .n) (hS _) [0,0] 0 U U U U
theorem c26 (k b:Nat) (h:HD) (hi:∀ n,n<h.E.length→(entOf h.E n).busy=false):Sp Tryz.prog 26 [pt b] [.hp (homC k b h)] fun K=>K (.returned (.bool true)) [.hp (homC k b h)]:=by
 refine ZenM Tryz.func26 U U U fun e X Φ hS=>Zsr<|Ze (eal z4) fun b2=>Zw<|Znqs<|Zm U<|Zk (c62 ..) [1] U U<|Zq ?_
 refine Zn<|Zcf U<|Zkn<|Zsq<|Zsr<|Za 3 [1] U U ?_
 refine Zol 0 hom_op U<|fun ok bi r kE hK=>Zv (yd 0 U U U)<|Zk (c64 ..) [2] U U<|fun b1=>Zq<|Znb ?_
 refine Zrh (q108 b1 r kE) (fun _=>[.hp (entsC h.E kE)]) (fun _=>True) (fun _=>[]) (fun _=>False) (fun _ _=>[]) (fun _ _=>False) [0,0,2] U U ?_ (fun e' y pre x vs F hx hR hn=>?_) (fun D hn=>?_) (fun _ _ _ h=>h.elim) (fun D id pre hx hp=>hp.elim) (fun x vs hR=>by obtain ⟨_,_,rfl⟩:=hR;rfl) (by decide)
 rotate_left
 rotate_left
 rotate_left
 ·trivial
 ·obtain ⟨⟨n,bn⟩,hm,rfl⟩:=hR
  have hb:=hi n (hK.lt n (List.mem_map.2 ⟨_,hm,rfl⟩))
  obtain ⟨a,c,hE⟩:=List.append_of_mem hm
  refine Zoc 0 (ents_op' hE) U<|Zoc 0 ent_op U<|fun A cap=>Zrg<|Zy U<|Znl<|Zak 3 U fun F'=>Zbl<|Zsr<|Za 3 [5] U U ?_
  refine Zv (yd 0 U U U)<|Zn<|Zcf' U hb<|Zsk<|Zxn ?_
  refine Zfx [0,0] (ent_fold (b:=bn) (d:=entOf h.E n)) U ?_
  refine Zfx [0,0] (ents_in' hE) U<|Zrn trivial [0] 0 U U
 ·refine Zxn<|Zxs<|Ze (es 6 U U U U U)<|Zw0<|Znr<|Zmk 0 U ?_
  refine Zfx [3,3,2,0] (hom_fold (k:=k) (h:=h) ok hK) U ?_
  refine Zre (.c 2 U U U .n) hS [0] 2 U U U U
theorem c16b (k b:Nat) (m:MD) (x:Cho) (h0:rightC x=false):Sp Tryz.prog 16 [pt b,.agg (choE.arr x)] [.hp (machC k b m),spC] fun K=>∀ d why,K (.returned (.tuple #[.agg (didE.arr d),.int .i64 why])) [.hp (machC k b m),spC]:=by
 refine Zen Tryz.func16 U U U fun e X Φ hS=>Zsr<|Ze (ebxE U) fun b3=>Zw<|Ze (eal z53) fun b4=>Zw<|Zy U<|Znq<|Zbl<|Zsr ?_
 refine Zm U<|Zk (c35 ..) [2] U U<|Zq<|Zy U<|Zn<|Zcf U<|Zsr<|Zv (ydw 2 (m:=3) U U (Enc.len ..))<|Zk (c38 ..) [] U U ?_
 refine Zq<|Zb 2 U<|Zn<|Zib U (fun h13=>?_) (fun h13=>?_)
 refine Zsr<|Zv (yb l53 U)<|Ze (esw 1 (m:=20) U U U U U U U)<|Zw0<|Zy U<|Znr<|Zr2<|Zr1 ?_
 rotate_left
 refine Zsk<|Zxn<|Zxq ?_
 rotate_left
 ·refine Zre (.wh 1 (m:=20) U U U (.t U .n)) (hS did0 2) [0,2] 2 U U U U
 ·rw [show (decide (1≤x.kind) && decide (x.kind≤5))=false from h0] at h13
  cases h13
def stpM (m:MD) (x:Cho):MD:=if rightC x then lostM (stepK m x).1 else m
structure MD.Few (k:Nat) (m:MD):Prop where
 f:∀ c∈m.C,c.first≤k
 q:∀ n,n<m.h.E.length→(entOf m.h.E n).q.length≤k
theorem cor_norm {k k' b:Nat} {c:Cor} (hk:c.first≤k'):∀ g,Sep [.hp (corC k b c)] g→corC k' b c g:=fun g hs=>by
 obtain ⟨h1,h2,hle,_,_,⟨ok,A,cap,bb,pr,hp⟩,_⟩:=hs
 exact ⟨{ ok with f1:=hk },A,cap,bb,pr,hp.up hle⟩
theorem hom_norm {k k' b:Nat} {h:HD} (hk:∀ n,n<h.E.length→(entOf h.E n).q.length≤k'):∀ g,Sep [.hp (homC k b h)] g→homC k' b h g:=fun g hs=>by
 obtain ⟨h1,h2,hle,_,_,⟨ok,bi,r,es,hK,hp⟩,_⟩:=hs
 exact ⟨⟨ok.r,ok.l,ok.p,ok.e,fun n hn=>⟨(ok.w n hn).a,(ok.w n hn).w,(ok.w n hn).q,hk n hn⟩⟩,bi,r,es,hK,hp.up hle⟩
theorem part_norm {k k' b:Nat} {m:MD} (hk:m.Few k'):∀ g,Sep [.hp (partC k b m)] g→partC k' b m g:=fun g hs=>by
 obtain ⟨h1,h2,hle,_,_,⟨ok,A,cap,B,capb,bn,bh,cb,kb,hl,hp⟩,_⟩:=hs
 have hp:=hp.up hle
 refine ⟨ok.mono,A,cap,B,capb,bn,bh,cb,kb,hl,?_⟩
 refine hp.mapTl fun _ hp=>hp.mapTl fun _ hp=>hp.mapTl fun _ hp=>?_
 have hp:=hp.hd (q := .hp (corsC k' (cb.zip m.C))) fun _ hh=>many_imp hh fun x hx h hc=>cor_norm (hk.f x.2 (List.of_mem_zip hx).2) h (sep_hp1 hc)
 refine hp.mapTl fun _ hp=>hp.mapTl fun _ hp=>hp.mapTl fun _ hp=>?_
 exact hp.hd (q := .hp (homC k' bh m.h)) fun _ hh=>hom_norm hk.q _ (sep_hp1 hh)
theorem mach_norm {k k' b:Nat} {m:MD} (hk:m.Few k'):∀ g,Sep [.hp (machC k b m)] g→machC k' b m g:=fun g hs=>by
 obtain ⟨h1,h2,hle,_,_,⟨bp,hp⟩,_⟩:=hs
 have hp:=hp.up hle
 exact ⟨bp,hp.mapTl fun _ hp=>hp.hd fun _ hh=>part_norm hk _ (sep_hp1 hh)⟩
structure StP (P:MD→Prop):Prop where
 n:∀ m,P m→∀ y∈m.q,y.dst=4∨(0≤y.dst∧y.dst<(m.C.length:Int))
 f:∀ m,P m→m.Few 900
 s:∀ m x,P m→ChoIn x→x.kind≠1→P (stpM m x)
theorem c16c {P:MD→Prop} (hP:StP P) (b:Nat) (m:MD) (x:Cho) (hm:P m) (hm2:P (stpM m x)) (hx:ChoIn x):Sp Tryz.prog 16 [pt b,.agg (choE.arr x)] [.hp (machC 900 b m),spC] fun K=>∀ d why,K (.returned (.tuple #[.agg (didE.arr d),.int .i64 why])) [.hp (machC 900 b (stpM m x)),spC]:=by
 by_cases h:rightC x=true
 ·have h':=h
  unfold rightC at h'
  simp only [Bool.and_eq_true,decide_eq_true_eq] at h'
  rw [show stpM m x=lostM (stepK m x).1 from if_pos h]
  have hf:(lostM (stepK m x).1).Few 900:=by
   have:=hP.f _ hm2
   rwa [show stpM m x=lostM (stepK m x).1 from if_pos h] at this
  exact ⟨fun e X w Φ hp hS=>(c16a 900 b m x (by omega) h'.1 h'.2 hx.p hx.h (hP.n m hm)).run e X w Φ hp (fun w' hw=>hS _ _ w' (hw.imp fun _ hs=>hs.hd fun _ hh=>mach_norm hf _ (sep_hp1 hh)))⟩
 ·rw [show stpM m x=m from if_neg h]
  exact c16b 900 b m x (by simpa using h)
theorem cho_in {k pick:Int} (hp : -9223372036854775808≤pick∧pick≤9223372036854775807):ChoIn ⟨k,0,pick⟩:=⟨⟨show (-9223372036854775808:Int)≤0 by decide,show (0:Int)≤9223372036854775807 by decide⟩,hp⟩
def dlvM (pick:Int) (m:MD):MD:=stpM m ⟨3,0,pick⟩
def dlvs (pick:Int):Nat→MD→MD
 | 0,m=>m
 | n+1,m=>dlvM pick (dlvs pick n m)
theorem dlvs_P {P:MD→Prop} (hP:StP P) {pick:Int} (hp : -9223372036854775808≤pick∧pick≤9223372036854775807) {m:MD} (hm:P m):∀ n,P (dlvs pick n m)
 | 0=>hm
 | n+1=>hP.s (dlvs pick n m) ⟨3,0,pick⟩ (dlvs_P hP hp hm n) (cho_in hp) (show (3:Int)≠1 by decide)
theorem c17 {P:MD→Prop} (hP:StP P) (b:Nat) (m:MD) (pick:Int) (hp : -9223372036854775808≤pick∧pick≤9223372036854775807) (hm:P m):Sp Tryz.prog 17 [pt b,.int .i64 pick] [.hp (machC 900 b m),spC] fun K=>∀ n,n≤400→(∀ j,j<n→(dlvs pick j m).q≠[])→(n=400∨(dlvs pick n m).q=[])→K (.returned (.bool (decide (((dlvs pick n m).q.length:Int)=0)))) [.hp (machC 900 b (dlvs pick n m)),spC]:=by
 refine Zen Tryz.func17 U U U fun e X Φ hS=>Zsr<|Zy U<|Znqs<|Zy U<|Zn ?_
 refine Zbl ?_
 refine Zlq (ι:={ n:Nat // n≤400∧∀ j,j<n→(dlvs pick j m).q≠[] }) (fun n=>[(5,.int .i64 (n.1:Int)),(0,pt b),(1,.int .i64 pick)]) (fun n=>[.hp (machC 900 b (dlvs pick n.1 m)),spC]) (fun n=>400-n.1) ⟨0,by omega,fun j hj=>by omega⟩ ⟨U,U,U,trivial⟩ [0,0] U fun n=>Zsq<|Zsr<|Zb 3 U<|Zgs U U (fun h8=>?_) (fun h8=>?_)
 refine Zg' U U (dT h8)<|Zm U<|Zg' U U (dT h8)<|Zk (c43 ..) [0] U U<|fun A=>fun cap=>Zq<|Zg' U U (dT h8)<|Zv (sl_of ⟨_,Tryz.underlying112⟩ U)<|Zg' U U (dT h8) ?_
 refine Zv (ygt U U)<|Zv (ypt' U (dT h8) U)<|Zn<|Zif U (fun h13=>?_) (fun h13=>?_)
 refine Zkn<|Zsq<|Zbl<|Zrg<|Zb 2 U<|Zv (yb l71 U) ?_
 rotate_left
 refine Zex<|Zxt<|Zxt<|Zxx<|Zxs<|Zm U<|Zk (c43 ..) [1] U U<|fun A_1=>fun cap_1=>?_
 refine Zq<|Zv (sl_of ⟨_,Tryz.underlying112⟩ U)<|Zb 2 U<|Znr ?_
 rotate_left
 refine Zu' U U (dF h8) U<|Zu' U U (dF h8) U<|Zu' U U (dF h8) U<|Zu' U U (dF h8) U<|Zv (ypf' U (dF h8) U)<|Zn<|Zcf U<|Zex<|Zxt ?_
 refine Zxt<|Zxx<|Zxs<|Zm U<|Zk (c43 ..) [0] U U<|fun A=>fun cap=>Zq<|Zv (sl_of ⟨_,Tryz.underlying112⟩ U) ?_
 refine Zb 2 U<|Znr ?_
 rotate_left
 ·refine Zk (c16c hP b (dlvs pick n.1 m) ⟨3,0,pick⟩ (dlvs_P hP hp hm n.1) (dlvs_P hP hp hm (n.1+1)) (cho_in hp)) [1,1] U U<|fun d=>fun why=>Zq<|Znl<|Zxn<|Znx<|Zrg<|Zm U<|Zv (yadd U U (i64w U (by omega))) ?_
  refine Zy U<|Znl ?_
  have hlt:n.1<400:=by omega
  refine Zlr ⟨n.1+1,hlt,fun j hj=>by rcases Nat.lt_succ_iff_lt_or_eq.1 hj with h | h;exact n.2.2 j h;rw [h];intro e;rw [e] at h13;exact absurd h13 (by decide)⟩ (by show 400-(n.1+1)<400-n.1;omega) ⟨U,U,U,trivial⟩ [0,0] 1 U U
 ·have hq:(dlvs pick n.1 m).q=[]:=List.length_eq_zero_iff.1 (by omega)
  refine Zre (.t U .n) (hS n.1 n.2.1 n.2.2 (.inr hq)) [1,2] 2 U U U U
 ·have hn:n.1=400:=by have:=n.2.1;omega
  refine Zre (.t U .n) (hS n.1 n.2.1 n.2.2 (.inl hn)) [1,1] 1 U U U U
theorem c16p {p q:HP} (a:Arg p q) {P:MD→Prop} (hP:StP P) (b:Nat) (m:MD) (x:Cho) (hm:P m) (hm2:P (stpM m x)) (hx:ChoIn x):Sp Tryz.prog 16 [pt b,.agg (choE.arr x)] [.hp (machC 900 b m),.hp p] fun K=>∀ d why,K (.returned (.tuple #[.agg (didE.arr d),.int .i64 why])) [.hp (machC 900 b (stpM m x)),.hp p]:=⟨fun e X w Φ hp hS=>(c16c hP b m x hm hm2 hx).run e (.hp q::X) w Φ (hp.imp fun _ hs=>hs.mapTl fun _ hs=>a.un hs) fun d why w' hw=>hS d why w' (hw.imp fun _ hs=>hs.mapTl fun _ hs=>a.re hs)⟩
def Calm (pick:Int) (m m':MD):Prop:=m'.q=[]∧∃ n,m'=dlvs pick n m
theorem c17p {p q:HP} (a:Arg p q) {P:MD→Prop} (hP:StP P) (b:Nat) (m:MD) (pick:Int) (hp : -9223372036854775808≤pick∧pick≤9223372036854775807) (hm:P m) (hc:∃ n,n<400∧(dlvs pick n m).q=[]):Sp Tryz.prog 17 [pt b,.int .i64 pick] [.hp (machC 900 b m),.hp p] fun K=>∀ m',Calm pick m m'→K (.returned (.bool true)) [.hp (machC 900 b m'),.hp p]:=⟨fun e X w Φ hh hS=>(c17 hP b m pick hp hm).run e (.hp q::X) w Φ (hh.imp fun _ hs=>hs.mapTl fun _ hs=>a.un hs) fun n hn hj hq w' hw=>by
 have hq0:(dlvs pick n m).q=[]:=by
  rcases hq with h | h
  ·obtain ⟨N,h1,h2⟩:=hc
   exact absurd h2 (hj N (by omega))
  ·exact h
 rw [show decide (((dlvs pick n m).q.length:Int)=0)=true by rw [hq0];rfl]
 exact hS _ ⟨hq0,n,rfl⟩ w' (hw.imp fun _ hs=>hs.mapTl fun _ hs=>a.re hs)⟩
abbrev linesM (m:MD) (i:Nat):List Ln:=allL (m.ca i).n (m.ca i).L
structure HmI (pick:Int) (n:Nat) (ls:List Cho) (m0:MD) where
 P:MD→Prop
 A:Nat→Nat→MD→Prop
 E:List Int→Nat→Nat→MD→Prop
 st:StP P
 len:∀ m,P m→m.C.length=n
 dl:∀ m,P m→m.D.length=n
 p0:P m0
 fo:∀ i,i≤ls.length→P ((ls.take i).foldl stpM m0)
 c:∀ m,P m→∃ n,n<400∧(dlvs pick n m).q=[]
 aP:∀ {i j m},A i j m→P m
 eP:∀ {w i j m},E w i j m→P m
 a0:∀ {m},Calm pick (ls.foldl stpM m0) m→A 0 0 m
 a1:∀ {i j m m'},A i j m→(h:i<m.C.length)→j<16→m.C[i].B≠[]→Calm pick (stpM m ⟨2,i,pick⟩) m'→A i (j+1) m'
 a2:∀ {i j m},A i j m→(h:i<m.C.length)→(j=16∨m.C[i].B=[])→m.C[i].B=[]∧A (i+1) 0 m
 e0:∀ {m},A n 0 m→E (memF m) 0 0 m
 e1:∀ {w i j m m'},E w i j m→i<n→j<16→linesM m i≠[]→Calm pick (stpM m ⟨4,i,pick⟩) m'→E w i (j+1) m'
 e2:∀ {w i j m},E w i j m→i<n→(j=16∨linesM m i=[])→linesM m i=[]∧E w (i+1) 0 m
 e3:∀ {w m},E w n 0 m→m.h.bs=w∧memF m=w∧∀ k,k<m.h.E.length→(entOf m.h.E k).busy=false
theorem take_fold {m:MD} {ls:List Cho} {i:Nat} (h:i<ls.length):stpM ((ls.take i).foldl stpM m) ls[i]=(ls.take (i+1)).foldl stpM m:=by
 rw [← take_snc (gE h),List.foldl_append]
 rfl
theorem c5 (p q:HP) (a:Arg p q) (x:Wld) (hx:x.In (.hp p)) (C:Option Addr) (capc:Nat) (ls:List Cho) (hR:Rd choE (.hp p) C capc ls) (hl:∀ y∈ls,ChoIn y) (hc1:ls.length≤capc) (pick:Int) (hpk : -9223372036854775808≤pick∧pick≤9223372036854775807) (hI:x.ok=true→x.Few ls.length→HmI pick x.l.length ls x.m):Sp Tryz.prog 5 [.agg x.cells.toArray,.slice C ls.length capc,.int .i64 pick] [.hp p] fun K=>K (.returned (.bool true)) [.hp p]:=by
 refine Zen Tryz.func5 U U U fun e X Φ hS=>Zsr<|Ze (ebx U) fun b3=>Zw<|Zy U<|Zns<|Zv (ydw 0 (m:=4) U U U) ?_
 refine Zk (c7 (.hp p) x hx) [1] U U<|⟨?_,?_⟩
 refine fun a_1=>fun b=>fun bi=>Zq <| Zv (ym rfl) <| Zv (yx rfl rfl) <| Zv (yx rfl rfl) <| Zv (ya rfl) <| Zv (ya rfl) <| Znl ?_
 refine Zxq<|Zsr<|Zv (ydw 3 (m:=4) U U U)<|Zm U ?_
 rotate_left
 refine fun a_1=>Zq <| Zv (ym rfl) <| Zv (yx rfl rfl) <| Zv (yx rfl rfl) <| Zv (ya rfl) <| Zv (ya rfl) <| Znl <| Znx <| Zsq ?_
 refine Zsr<|Zv (ydw 1 (m:=4) U U U)<|Zm U ?_
 rotate_left
 ·refine Zk (c8 (.hp p) x hx C capc ls.length) [2] U U<|⟨?_,?_⟩
  refine Zq<|Zb 4 U<|Zn<|Zct U<|Zsr ?_
  rotate_left
  refine fun a_2=>Zq <| Zv (ym rfl) <| Zg rfl rfl <| Zv (ym rfl) <| Zg rfl rfl <| Zv (ypeq rfl rfl rfl) <| Zv (ypf rfl rfl) <| Znl <| Znx ?_
  refine Zcf U<|Zkn<|Zsq<|Zsr<|Zy U<|Znb ?_
  rotate_left
  ·refine Zk (c9p a) [0] U U<|Zq<|Zy U<|Znr<|Zr1<|Zre (.t U .n) hS [0] 3 U U U U
  ·have I:=hI a_1 a_2
   have hn2:=a_2.n
   obtain ⟨hin,hn4⟩:x.m.In∧x.m.C.length≤4:=newM_in (by unfold Wld.ok at a_1;simp only [Bool.and_eq_true] at a_1;exact a_1.2)
   rw [I.len _ I.p0] at hn4
   refine Zfc [1] (mach_norm (k:=0) (I.st.f _ I.p0)) U ?_
   refine Zlq (ι:={ i:Nat // i≤ls.length }) (fun i=>[(9,.int .i64 (i.1:Int)),(7,pt b),(3,pt b3),(1,.slice C ls.length capc),(2,.int .i64 pick)]) (fun i=>[.hp (machC 900 b ((ls.take i.1).foldl stpM x.m)),.hp p,.blk b3 25 x.cells]) (fun i=>ls.length-i.1) ⟨0,Nat.zero_le _⟩ ⟨U,U,U,U,U,trivial⟩ [0,0,1] U fun i=>Zsq<|Zsr<|Zb 2 U<|Zv (sl_of ⟨_,Tryz.underlying26⟩ U)<|Zv (ylt U U)<|Zn<|Zif U (fun h31=>?_) (fun h31=>?_)
   refine Zkn<|Zsq<|Zbl<|Zrg<|Zb 3 U<|Zv (yea 1 hR U U U (by first | assumption | omega) U Tryz.underlying26 U)<|Zv (yel 1 hR U (gE (by first | assumption | omega)) U U U) ?_
   rotate_left
   refine Zex<|Zxt<|Zxt<|Zxx<|Zxs<|Zb 2 U ?_
   rotate_left
   ·have hlt:i.1<ls.length:=by omega
    refine Zk (c16p a I.st b _ ls[i.1] (I.fo i.1 i.2) (by rw [take_fold hlt];exact I.fo (i.1+1) hlt) (hl _ (List.getElem_mem hlt))) [0,0] U U<|fun d=>fun why=>Zq<|Znl<|Zxn<|Znx<|Zrg<|Zm U<|Zv (yadd U U (i64w U (by omega))) ?_
    refine Zy U<|Znl ?_
    rw [take_fold hlt]
    refine Zlr ⟨i.1+1,hlt⟩ (by show ls.length-(i.1+1)<ls.length-i.1;omega) ⟨U,U,U,U,U,trivial⟩ [0,0,0] 0 U U
   ·have hi:i.1=ls.length:=by have:=i.2;omega
    rw [hi,List.take_length]
    have hPf:=I.fo ls.length (Nat.le_refl _)
    rw [List.take_length] at hPf
    refine Zk (c17p a I.st b _ pick hpk hPf (I.c _ hPf)) [0,0] U U<|fun m'=>fun a_3=>Zq<|Znqs<|Zy U<|Znl ?_
    refine Znx<|Zbl ?_
    refine Zlq (ι:={ s:Nat × MD // s.1≤x.l.length∧I.A s.1 0 s.2 }) (fun s=>[(10,.int .i64 (s.1.1:Int)),(7,pt b),(3,pt b3),(2,.int .i64 pick)]) (fun s=>[.hp (machC 900 b s.1.2),.hp p,.blk b3 25 x.cells]) (fun s=>x.l.length-s.1.1) ⟨(0,m'),Nat.zero_le _,I.a0 a_3⟩ ⟨U,U,U,U,trivial⟩ [0,0,0] U fun s=>Zsq<|Zsr<|Za 3 [0,2] U U<|Zv (sl_of ⟨_,Tryz.underlying22⟩ U)<|Zv (ylt U U)<|Zn ?_
    refine Zif U (fun h47=>?_) (fun h47=>?_)
    refine Zkn<|Zsq<|Zbl<|Zsq<|Zsr<|Zy U<|Znb ?_
    rotate_left
    refine Zex<|Zxt<|Zxt<|Zxx<|Zxs<|Zm U ?_
    rotate_left
    ·have hlt:s.1.1<x.l.length:=by omega
     have hA:=s.2.2
     refine Zlq (ι:={ t:Nat × MD // t.1≤16∧I.A s.1.1 t.1 t.2 }) (fun t=>[(11,.int .i64 (t.1.1:Int)),(10,.int .i64 (s.1.1:Int)),(7,pt b),(3,pt b3),(2,.int .i64 pick)]) (fun t=>[.hp (machC 900 b t.1.2),.hp p,.blk b3 25 x.cells]) (fun t=>16-t.1.1) ⟨(0,s.1.2),Nat.zero_le _,s.2.2⟩ ⟨U,U,U,U,U,trivial⟩ [0,0,0] U fun t=>Zsq<|Zsr<|Zb 3 U<|Zgs U U (fun h52=>?_) (fun h52=>?_)
     refine Zg' U U (dT h52)<|Zm U<|Zg' U U (dT h52)<|Zm U<|Zg' U U (dT h52) ?_
     rotate_left
     refine Zu' U U (dF h52) U<|Zu' U U (dF h52) U<|Zu' U U (dF h52) U<|Zu' U U (dF h52) U<|Zu' U U (dF h52) U<|Zu' U U (dF h52) U<|Zv (ypf' U (dF h52) U)<|Zn<|Zcf U ?_
     refine Zex<|Zxt<|Zxt<|Zxx<|Zxs<|Zb 2 U ?_
     rotate_left
     ·have hC:s.1.1<t.1.2.C.length:=by rw [I.len _ (I.aP t.2.2)];exact hlt
      refine Zk (c18 900 b s.1.1 t.1.2 hC) [0] U U<|fun b'=>Zq<|Zg' U U (dT h52)<|Zk (c19 ..) [0] U U<|fun A=>fun cap=>Zq<|Zg' U U (dT h52)<|Zv (sl_of ⟨_,Tryz.underlying73⟩ U) ?_
      refine Zg' U U (dT h52)<|Zv (ygt U U)<|Zv (ypt' U (dT h52) U)<|Zn<|Zif U (fun h59=>?_) (fun h59=>?_)
      refine Zkn<|Zsq<|Zbl<|Zsr<|Zb 3 U<|Zv (yb l71 U) ?_
      rotate_left
      refine Zex<|Zxt<|Zxt<|Zxx<|Zxs<|Zb 2 U ?_
      rotate_left
      ·have hne:t.1.2.C[s.1.1].B≠[]:=fun e=>by rw [e] at h59;exact absurd h59 (by decide)
       have hx2:ChoIn ⟨2,(s.1.1:Int),pick⟩:=⟨⟨show (-9223372036854775808:Int)≤(s.1.1:Int) by omega,show (s.1.1:Int)≤9223372036854775807 by omega⟩,hpk⟩
       have hP2:=I.st.s _ _ (I.aP t.2.2) hx2 (show (2:Int)≠1 by decide)
       have hlt2:t.1.1<16:=by omega
       refine Zk (c16p a I.st b t.1.2 ⟨2,(s.1.1:Int),pick⟩ (I.aP t.2.2) hP2 hx2) [2,2] U U<|fun d=>fun why=>Zq<|Zn<|Zrg<|Zb 2 U ?_
       refine Zk (c17p a I.st b _ pick hpk hP2 (I.c _ hP2)) [0,0] U U<|fun m'_1=>fun a_4=>Zq<|Znl<|Zxn<|Znx<|Zrg<|Zm U<|Zv (yadd U U (i64w U (by omega))) ?_
       refine Zy U<|Znl ?_
       refine Zlr ⟨(t.1.1+1,m'_1),hlt2,I.a1 t.2.2 hC hlt2 hne a_4⟩ (by show 16-(t.1.1+1)<16-t.1.1;omega) ⟨U,U,U,U,U,trivial⟩ [0,0,2] 2 U U
      ·have h2:=I.a2 t.2.2 hC (.inr (List.length_eq_zero_iff.1 (by omega)))
       refine Zk (c18 900 b s.1.1 t.1.2 hC) [2] U U<|fun b'_1=>Zq<|Zk (c19 ..) [0] U U<|fun A_1=>fun cap_1=>Zq<|Zv (sl_of ⟨_,Tryz.underlying73⟩ U)<|Zv (ygt U U)<|Znl ?_
       refine Znx<|Zcf' U (dF h59)<|Zsk<|Zxn<|Znx<|Zrg<|Zm U<|Zv (yadd U U (i64w U (by omega)))<|Zy U<|Znl ?_
       refine Zlr ⟨(s.1.1+1,t.1.2),hlt,h2.2⟩ (by show x.l.length-(s.1.1+1)<x.l.length-s.1.1;omega) ⟨U,U,U,U,trivial⟩ [2,4,4] 4 U U
     ·have hC:s.1.1<t.1.2.C.length:=by rw [I.len _ (I.aP t.2.2)];exact hlt
      have h2:=I.a2 t.2.2 hC (.inl (by have:=t.2.1;omega))
      refine Zk (c18 900 b s.1.1 t.1.2 hC) [0] U U<|fun b'=>Zq<|Zk (c19 ..) [0] U U<|fun A=>fun cap=>Zq<|Zv (sl_of ⟨_,Tryz.underlying73⟩ U)<|Zv (ygt U U)<|Znl ?_
      refine Znx<|Zif U (fun h75=>?_) (fun h75=>?_)
      refine Zsr<|Zy U<|Znr<|Zr2<|Zr1<|Zr1<|Zr2<|Zr1 ?_
      refine Zre (.t U .n) hS [3] 5 ?_ U U U
      rotate_left
      refine Zsk<|Zxn<|Znx<|Zrg<|Zm U<|Zv (yadd U U (i64w U (by omega)))<|Zy U<|Znl ?_
      rotate_left
      ·exact absurd h75 (by rw [h2.1];decide)
      ·refine Zlr ⟨(s.1.1+1,t.1.2),hlt,h2.2⟩ (by show x.l.length-(s.1.1+1)<x.l.length-s.1.1;omega) ⟨U,U,U,U,trivial⟩ [2,2,2] 2 U U
    ·have hsn:s.1.1=x.l.length:=by have:=s.2.1;omega
     have hA:=s.2.2
     rw [hsn] at hA
     have hE:=I.e0 hA
     refine Zol 0 mach_ok U<|fun ok hok=>?_
     have hml:=mem_len hok
     refine Zk (c20 900 b s.1.2 (by omega)) [0] U U<|fun b'=>Zq<|Zk (c21 ..) [0] U U<|fun g'=>fun o'=>fun cap'=>Zq ?_
     refine Zv (ycvs 1 own.rd U U U)<|Zy U<|Znqs<|Zy U<|Znb ?_
     refine Zlq (ι:={ u:Nat × MD // u.1≤x.l.length∧I.E (memF s.1.2) u.1 0 u.2 }) (fun u=>[(13,.int .i64 (u.1.1:Int)),(12,.string (strOfNums (memF s.1.2))),(7,pt b),(3,pt b3),(2,.int .i64 pick)]) (fun u=>[.hp (machC 900 b u.1.2),.hp p,.blk b3 25 x.cells]) (fun u=>x.l.length-u.1.1) ⟨(0,s.1.2),Nat.zero_le _,hE⟩ ⟨U,U,U,U,U,trivial⟩ [2,2,2] U fun u=>Zsq<|Zsr<|Za 3 [0,2] U U<|Zv (sl_of ⟨_,Tryz.underlying22⟩ U)<|Zv (ylt U U)<|Zn ?_
     refine Zif U (fun h84=>?_) (fun h84=>?_)
     refine Zkn<|Zsq<|Zbl<|Zsq<|Zsr<|Zy U<|Znb ?_
     rotate_left
     refine Zex<|Zxt<|Zxt<|Zxx<|Zxs<|Zm U ?_
     rotate_left
     ·have hlt:u.1.1<x.l.length:=by omega
      refine Zlq (ι:={ t:Nat × MD // t.1≤16∧I.E (memF s.1.2) u.1.1 t.1 t.2 }) (fun t=>[(14,.int .i64 (t.1.1:Int)),(13,.int .i64 (u.1.1:Int)),(12,.string (strOfNums (memF s.1.2))),(7,pt b),(3,pt b3),(2,.int .i64 pick)]) (fun t=>[.hp (machC 900 b t.1.2),.hp p,.blk b3 25 x.cells]) (fun t=>16-t.1.1) ⟨(0,u.1.2),Nat.zero_le _,u.2.2⟩ ⟨U,U,U,U,U,U,trivial⟩ [0,0,0] U fun t=>Zsq<|Zsr<|Zb 3 U<|Zgs U U (fun h89=>?_) (fun h89=>?_)
      refine Zg' U U (dT h89)<|Zm U<|Zg' U U (dT h89)<|Zm U<|Zg' U U (dT h89) ?_
      rotate_left
      refine Zu' U U (dF h89) U<|Zu' U U (dF h89) U<|Zu' U U (dF h89) U<|Zu' U U (dF h89) U<|Zu' U U (dF h89) U<|Zu' U U (dF h89) U<|Zv (ypf' U (dF h89) U)<|Zn<|Zcf U ?_
      refine Zex<|Zxt<|Zxt<|Zxx<|Zxs<|Zb 2 U ?_
      rotate_left
      ·have hC:u.1.1<t.1.2.C.length:=by rw [I.len _ (I.eP t.2.2)];exact hlt
       refine Zk (c22 900 b u.1.1 t.1.2 hC) [0] U U<|fun b'_1=>Zq<|Zg' U U (dT h89)<|Zk (c23 ..) [0] U U<|fun A=>fun cap=>Zq<|Zg' U U (dT h89)<|Zv (sl_of ⟨_,Tryz.underlying79⟩ U) ?_
       refine Zg' U U (dT h89)<|Zv (ygt U U)<|Zv (ypt' U (dT h89) U)<|Zn<|Zif U (fun h96=>?_) (fun h96=>?_)
       refine Zkn<|Zsq<|Zbl<|Zsr<|Zb 3 U<|Zv (yb l71 U) ?_
       rotate_left
       refine Zex<|Zxt<|Zxt<|Zxx<|Zxs<|Zb 2 U ?_
       rotate_left
       ·have hne:linesM t.1.2 u.1.1≠[]:=fun e=>by rw [show allL (t.1.2.ca u.1.1).n (t.1.2.ca u.1.1).L=[] from e] at h96;exact absurd h96 (by decide)
        have hx4:ChoIn ⟨4,(u.1.1:Int),pick⟩:=⟨⟨show (-9223372036854775808:Int)≤(u.1.1:Int) by omega,show (u.1.1:Int)≤9223372036854775807 by omega⟩,hpk⟩
        have hP4:=I.st.s _ _ (I.eP t.2.2) hx4 (show (4:Int)≠1 by decide)
        have hlt2:t.1.1<16:=by omega
        refine Zk (c16p a I.st b t.1.2 ⟨4,(u.1.1:Int),pick⟩ (I.eP t.2.2) hP4 hx4) [2,2] U U<|fun d=>fun why=>Zq<|Zn<|Zrg<|Zb 2 U ?_
        refine Zk (c17p a I.st b _ pick hpk hP4 (I.c _ hP4)) [0,0] U U<|fun m'_1=>fun a_4=>Zq<|Znl<|Zxn<|Znx<|Zrg<|Zm U<|Zv (yadd U U (i64w U (by omega))) ?_
        refine Zy U<|Znl ?_
        refine Zlr ⟨(t.1.1+1,m'_1),hlt2,I.e1 t.2.2 hlt hlt2 hne a_4⟩ (by show 16-(t.1.1+1)<16-t.1.1;omega) ⟨U,U,U,U,U,U,trivial⟩ [0,0,2] 2 U U
       ·have h2:=I.e2 t.2.2 hlt (.inr (List.length_eq_zero_iff.1 (show (allL (t.1.2.ca u.1.1).n (t.1.2.ca u.1.1).L).length=0 by omega)))
        refine Zk (c22 900 b u.1.1 t.1.2 hC) [2] U U<|fun b'_2=>Zq<|Zk (c23 ..) [0] U U<|fun A_1=>fun cap_1=>Zq<|Zv (sl_of ⟨_,Tryz.underlying79⟩ U)<|Zv (ygt U U)<|Znl ?_
        refine Znx<|Zcf' U (dF h96)<|Zsk<|Zxn<|Znx<|Zrg<|Zm U<|Zv (yadd U U (i64w U (by omega)))<|Zy U<|Znl ?_
        refine Zlr ⟨(u.1.1+1,t.1.2),hlt,h2.2⟩ (by show x.l.length-(u.1.1+1)<x.l.length-u.1.1;omega) ⟨U,U,U,U,U,trivial⟩ [2,4,4] 4 U U
      ·have hC:u.1.1<t.1.2.C.length:=by rw [I.len _ (I.eP t.2.2)];exact hlt
       have h2:=I.e2 t.2.2 hlt (.inl (by have:=t.2.1;omega))
       refine Zk (c22 900 b u.1.1 t.1.2 hC) [0] U U<|fun b'_1=>Zq<|Zk (c23 ..) [0] U U<|fun A=>fun cap=>Zq<|Zv (sl_of ⟨_,Tryz.underlying79⟩ U)<|Zv (ygt U U)<|Znl ?_
       refine Znx<|Zif U (fun h112=>?_) (fun h112=>?_)
       refine Zsr<|Zy U<|Znr<|Zr2<|Zr1<|Zr1<|Zr2<|Zr1 ?_
       refine Zre (.t U .n) hS [3] 7 ?_ U U U
       rotate_left
       refine Zsk<|Zxn<|Znx<|Zrg<|Zm U<|Zv (yadd U U (i64w U (by omega)))<|Zy U<|Znl ?_
       rotate_left
       ·exact absurd h112 (by rw [show allL (t.1.2.ca u.1.1).n (t.1.2.ca u.1.1).L=[] from h2.1];decide)
       ·refine Zlr ⟨(u.1.1+1,t.1.2),hlt,h2.2⟩ (by show x.l.length-(u.1.1+1)<x.l.length-u.1.1;omega) ⟨U,U,U,U,U,trivial⟩ [2,2,2] 2 U U
     ·have hun:u.1.1=x.l.length:=by have:=u.2.1;omega
      have hE2:=u.2.2
      rw [hun] at hE2
      obtain ⟨e1,e2,e3⟩:=I.e3 hE2
      refine Zol 0 mach_ok U<|fun ok2 hok2=>?_
      have hml2:=mem_len hok2
      have hbl:=hok2.l
      have hk9:900≤1000:=by decide
      refine Zk (c24 900 b u.1.2 hk9) [0] U U<|fun b'_1=>Zq<|Zk (c25 ..) [0] U U<|fun b'_2=>Zq<|Zk (c21 ..) [0] U U<|fun g'_1=>fun o'_1=>fun cap'_1=>?_
      refine Zq ?_
      refine Zv (ycvs 1 own.rd U U U)<|Zm U ?_
      rw [show strOfNums u.1.2.h.bs=strOfNums (memF s.1.2) by rw [e1]]
      refine Zv (yseq U U)<|Zb 2 U<|Zg U U ?_
      refine Zk (c20 900 b u.1.2 hk9) [3] U U<|fun b'_3=>Zq<|Zg U U<|Zk (c21 ..) [0] U U<|fun g'_2=>fun o'_2=>fun cap'_2=>Zq<|Zg U U ?_
      refine Zv (ycvs 1 own.rd U U U)<|Zb 1 U<|Zg U U ?_
      rw [show strOfNums (memF u.1.2)=strOfNums (memF s.1.2) by rw [e2]]
      refine Zv (yseq U U)<|Zb 3 U<|Zg U U ?_
      refine Zk (c24 900 b u.1.2 hk9) [2] U U<|fun b'_4=>Zq<|Zg U U ?_
      refine Zk (c26 900 b'_4 u.1.2.h e3) [0] U U<|Zq<|Zb 2 U<|Zg U U ?_
      refine Zk (c9p a) [7] U U<|Zq<|Zb 2 U<|Znr<|Zre (.t U .n) hS [0] 11 U U U U
 ·refine Zk (c8 (.hp p) x hx C capc ls.length) [0] U U<|⟨?_,?_⟩
  refine Zq<|Zb 4 U<|Zn<|Zct U<|Zsr ?_
  rotate_left
  refine fun a_2=>Zq <| Zv (ym rfl) <| Zg rfl rfl <| Zv (ym rfl) <| Zg rfl rfl <| Zv (ypeq rfl rfl rfl) <| Zv (ypf rfl rfl) <| Znl <| Znx ?_
  refine Zct U<|Zsr ?_
  rotate_left
  ·refine Zk (c9p a) [0] U U<|Zq<|Zy U<|Znr<|Zr1<|Zre (.t U .n) hS [0] 1 U U U U
  ·refine Zk (c9p a) [0] U U<|Zq<|Zy U<|Znr<|Zr1<|Zre (.t U .n) hS [0] 1 U U U U
end Go.Proofs.YtpfijldkkfiooaaGreatDoor
namespace Go.Proofs.YtpfijldkkfiooaaGreatDoor
open Go
set_option linter.unusedVariables false
structure StI (S:Nat) (s:Sto):Prop where
 u:U32 s.addr
 w:s.width=1∨s.width=2∨s.width=4
 al:s.addr%s.width=0
 le:s.addr+s.width≤S
structure CI (S f:Nat) (c:Cor):Prop where
 sz:c.size=S
 b:∀ s∈c.B,StI S s
 l:c.B.length≤4
 f0:0≤c.first
 f:c.first+c.B.length≤f
theorem CI.mono {S f f':Nat} {c:Cor} (h:CI S f c) (hf:f≤f'):CI S f' c:=⟨h.sz,h.b,h.l,h.f0,by have:=h.f;omega⟩
structure AcI (S:Nat) (a:Acc):Prop where
 k:1≤a.kind∧a.kind≤5→(a.width=1∨a.width=2∨a.width=4)∧a.addr+a.width≤S
 s:a.kind=2→U32 a.addr
theorem wid_in {op:Int} (h:11≤op∧op≤18):widF op=1∨widF op=2∨widF op=4:=by
 obtain rfl | rfl | rfl | rfl | rfl | rfl | rfl | rfl:op=11∨op=12∨op=13∨op=14∨op=15∨op=16∨op=17∨op=18:=by omega
 all_goals first | exact .inl rfl | exact .inr (.inl rfl) | exact .inr (.inr rfl)
theorem acc_in (h:Hrt) (i:Ins):(1≤(accF h i).kind∧(accF h i).kind≤5→((accF h i).width=1∨(accF h i).width=2∨(accF h i).width=4))∧((accF h i).kind=2→U32 (accF h i).addr):=by
 unfold accF
 split
 ·exact ⟨fun h=>by have h2:(6:Int)≤5:=h.2;omega,fun h=>by have h:(6:Int)=2:=h;omega⟩
 ·split
  ·rename_i h1
   exact ⟨fun _=>wid_in (by omega),fun h=>by have h:(1:Int)=2:=h;omega⟩
  ·split
   ·rename_i h1
    exact ⟨fun _=>wid_in (by omega),fun _=>w32_u _⟩
   ·split
    ·exact ⟨fun _ => .inr (.inr rfl),fun h=>by have h:(3:Int)=2:=h;omega⟩
    ·split
     ·exact ⟨fun _ => .inr (.inr rfl),fun h=>by have h:(4:Int)=2:=h;omega⟩
     ·split
      ·exact ⟨fun _ => .inr (.inr rfl),fun h=>by have h:(5:Int)=2:=h;omega⟩
      ·exact ⟨fun h=>by have h2:(1:Int)≤0:=h.1;omega,fun h=>by have h:(0:Int)=2:=h;omega⟩
theorem rdy_in {h:Hrt} {w size:Int} {i:Ins} {a:Acc} {p:Int} (e:rdyF h w size = .ok (i,a,p)):a=accF h (decF w).1∧(0<a.width→a.addr+a.width≤size):=by
 unfold rdyF at e
 split at e
 ·cases e
 ·split at e
  ·cases e
  ·split at e
   ·split at e
    ·cases e
    ·split at e
     ·cases e
     ·rename_i hb
      split at e
      ·cases e
      ·cases e
       exact ⟨rfl,fun _=>by simpa using hb⟩
   ·rename_i hw
    split at e
    ·cases e
    ·cases e
     exact ⟨rfl,fun h=>absurd h hw⟩
theorem act_ai (h:Hrt) (w:Int) (S:Nat):AcI S (actF h w S).1:=by
 have z:AcI S acc0:=⟨fun h=>by have h2:(1:Int)≤0:=h.1;omega,fun h=>by have h:(0:Int)=2:=h;omega⟩
 unfold actF
 split
 ·exact z
 ·split
  ·rename_i i a p e
   obtain ⟨rfl,hb⟩:=rdy_in e
   obtain ⟨h1,h2⟩:=acc_in h (decF w).1
   exact ⟨fun hk=>⟨h1 hk,hb (by rcases h1 hk with h | h | h <;> omega)⟩,h2⟩
  ·exact z
theorem line_in {S:Nat} {h:HD} {a w:Int} (hE:h.E.length=S/16) (hS:S%16=0) (hw:w=1∨w=2∨w=4) (hl:a+w≤S) (hu:U32 a):(a/16).toNat<h.E.length:=by
 rw [hE]
 obtain ⟨h0,_⟩:=hu
 omega
structure MS (N S f:Nat) (last:Nat→B16) (m:MD):Prop where
 c:m.C.length=N
 d:m.D.length=N
 mo:m.most=1024
 si:Ch.SI m.D m.h m.q last 36
 rg:Rg m.h.bs
 bl:m.h.bs.length=S
 s16:S%16=0
 s8:S≤128
 co:∀ c∈m.C,CI S f c
section
variable {N S f:Nat} {last:Nat→B16} {m:MD} {i:Nat} {d:CD} {c:Cor}
theorem MS.e (M:MS N S f last m):m.h.E.length=S/16:=by rw [M.si.hi.1,M.bl]
theorem MS.e8 (M:MS N S f last m):m.h.E.length≤8:=by
 rw [M.e]
 have:=M.s8
 omega
theorem MS.mono (M:MS N S f last m) {f':Nat} (hf:f≤f'):MS N S f' last m:=⟨M.c,M.d,M.mo,M.si,M.rg,M.bl,M.s16,M.s8,fun c hc=>(M.co c hc).mono hf⟩
theorem MS.put (M:MS N S f last m) {c':Cor} {d':CD} {ms:List Msg} {last':Nat→B16} {k f':Nat} (hs:Ch.SI (m.D.set i d') m.h (m.q++ms) last' k) (hc:CI S f' c') (hf:f≤f'):MS N S f' last' (m.put i c' d' (sendsF m.most m.q ms)):=by
 rw [M.mo,sends_si hs M.e8]
 exact ⟨by show (m.C.set i c').length=N;rw [List.length_set];exact M.c,by show (m.D.set i d').length=N;rw [List.length_set];exact M.d,M.mo,hs.norm,M.rg,M.bl,M.s16,M.s8,fun x hx=>by
  have hx:x∈m.C.set i c':=hx
  rcases List.mem_or_eq_of_mem_set hx with h | rfl
  ·exact (M.co x h).mono hf
  ·exact hc⟩
theorem MS.putD (M:MS N S f last m) {d':CD} {q ms:List Msg} {last':Nat→B16} {k:Nat} (hs:Ch.SI (m.D.set i d') m.h (q++ms) last' k):MS N S f last' (m.putD i d' (sendsF m.most q ms)):=by
 rw [M.mo,sends_si hs M.e8]
 exact ⟨M.c,by show (m.D.set i d').length=N;rw [List.length_set];exact M.d,M.mo,hs.norm,M.rg,M.bl,M.s16,M.s8,M.co⟩
abbrev ResM (S f:Nat) (m:MD) (i:Nat) (r:ARes):Prop:=(∃ last',Ch.SI (m.D.set i r.2.1) m.h (m.q++msOf r.2.2) last' 36)∧CI S (f+1) r.1
theorem res_done {c':Cor} {d':CD} (hs:∃ last',Ch.SI (m.D.set i d') m.h m.q last' 36) (hc:CI S (f+1) c') (w:Int) (x:Ans) (o:Int):ResM S f m i (doneR c' d' w x o):=by
 obtain ⟨l,hs⟩:=hs
 refine ⟨⟨l,?_⟩,⟨hc.sz,hc.b,hc.l,hc.f0,hc.f⟩⟩
 show Ch.SI (m.D.set i d') m.h (m.q++[]) l 36
 rw [List.append_nil]
 exact hs
theorem MS.same (M:MS N S f last m) (hi:m.D[i]? = some d):Ch.SI (m.D.set i d) m.h m.q last 36:=by
 rw [set_sm hi]
 exact M.si
theorem MS.same' (M:MS N S f last m) (hi:m.D[i]? = some d):Ch.SI (m.D.set i d) m.h (m.q++[]) last 36:=by
 rw [List.append_nil]
 exact M.same hi
theorem res_nil (M:MS N S f last m) (hi:m.D[i]? = some d) {c':Cor} (hc:CI S (f+1) c'):ResM S f m i (failR c' d []):=⟨⟨last,M.same' hi⟩,hc⟩
theorem res_ask (M:MS N S f last m) (hi:m.D[i]? = some d) {c':Cor} (hc:CI S (f+1) c') (a:Acc) (ha:U32 a.addr→(a.addr/16).toNat<m.h.E.length) (wr:Bool) (pick:Int):ResM S f m i (askR c' d a wr pick):=⟨⟨last,si_askA M.si hi a ha wr pick⟩,hc⟩
theorem push_ci {s:Sto} (hc:CI S f c) (h:pushE c.B s=0) (hs:chkS s=0→StI S s):CI S (f+1) (c.setB (pushL c.B s)):=by
 have h':=h
 unfold pushE at h'
 by_cases h1:chkS s≠0
 ·rw [if_pos h1] at h'
  exact absurd h' h1
 ·rw [if_neg h1] at h'
  by_cases h2:4≤c.B.length
  ·rw [if_pos h2] at h'
   omega
  ·have e:pushL c.B s=c.B++[s]:=if_pos h
   rw [e]
   have hl:(c.B++[s]).length=c.B.length+1:=by simp
   refine ⟨hc.sz,fun x hx=>?_,?_,hc.f0,?_⟩
   ·have hx:x∈c.B++[s]:=hx
    rcases List.mem_append.1 hx with hx | hx
    ·exact hc.b x hx
    ·rw [List.mem_singleton] at hx
     subst hx
     exact hs (by omega)
   ·show (c.B++[s]).length≤4
    omega
   ·show c.first+((c.B++[s]).length:Int)≤((f+1:Nat):Int)
    have:=hc.f
    omega
theorem chk_aw {s:Sto} (h:chkS s=0):s.addr%s.width=0:=by
 unfold chkS at h
 split at h
 ·split at h
  ·assumption
  ·cases h
 ·cases h
theorem act_res (M:MS N S f last m) (hi:m.D[i]? = some d) (hc:CI S f c) {a:Acc} (ha:AcI S a) (w pick:Int):ResM S f m i (actR c d w pick a):=by
 have hc1:CI S (f+1) c:=hc.mono (Nat.le_succ f)
 have hr1:∀ r,CI S (f+1) (c.setR r):=fun r=>⟨hc1.sz,hc1.b,hc1.l,hc1.f0,hc1.f⟩
 have hs0:∃ last',Ch.SI (m.D.set i d) m.h m.q last' 36:=⟨last,M.same hi⟩
 have hl:1≤a.kind∧a.kind≤5→U32 a.addr→(a.addr/16).toNat<m.h.E.length:=fun hk hu=>line_in M.e M.s16 (ha.k hk).1 (ha.k hk).2 hu
 unfold actR
 split
 ·rename_i hk
  unfold loadR
  split
  ·exact res_nil M hi hc1
  ·split
   ·exact res_done hs0 hc1 _ _ _
   ·unfold cachR
    split
    ·exact res_done hs0 hc1 _ _ _
    ·exact res_ask M hi hc1 a (hl (by omega)) false pick
 ·split
  ·rename_i hk
   unfold storeR
   split
   ·rename_i hp
    refine res_done hs0 (push_ci hc hp fun h0=>⟨ha.s hk,(ha.k (by omega)).1,chk_aw h0,(ha.k (by omega)).2⟩) _ _ _
   ·rename_i hp
    rw [show pushL c.B (stoA a)=c.B from if_neg hp]
    exact res_nil M hi ⟨hc1.sz,hc1.b,hc1.l,hc1.f0,hc1.f⟩
  ·split
   ·rename_i hk
    unfold lrR
    split
    ·split
     ·exact res_done hs0 (hr1 _) _ _ _
     ·exact res_ask M hi hc1 a (hl (by omega)) false pick
    ·exact res_nil M hi hc1
   ·split
    ·rename_i hk
     unfold scR
     split
     ·exact res_nil M hi hc1
     ·split
      ·split
       ·exact res_done (si_write M.si hi _ _ _) (hr1 _) _ _ _
       ·exact res_ask M hi hc1 a (hl (by omega)) true pick
      ·exact res_done hs0 (hr1 _) _ _ _
    ·split
     ·rename_i hk
      unfold amoR
      split
      ·exact res_nil M hi hc1
      ·split
       ·exact res_done (si_write M.si hi _ _ _) hc1 _ _ _
       ·exact res_ask M hi hc1 a (hl (by omega)) true pick
     ·split
      ·unfold fenceR
       split
       ·exact res_done hs0 hc1 _ _ _
       ·exact res_nil M hi hc1
      ·exact res_done hs0 hc1 _ _ _
theorem MS.go (M:MS N S f last m) (i:Nat) (pick:Int):∃ last',MS N S (f+1) last' (goM m i pick).1:=by
 unfold goM
 split
 ·rename_i c d hc hd
  have hci:=M.co c (List.mem_of_getElem? hc)
  have hc1:=hci.mono (Nat.le_succ f)
  have:∃ last',Ch.SI (m.D.set i (goF c d pick).2.1) m.h (m.q++(goF c d pick).2.2.2) last' 36∧CI S (f+1) (goF c d pick).1:=by
   unfold goF
   split
   ·exact ⟨last,M.same' hd,hc1⟩
   ·split
    ·exact ⟨last,M.same' hd,hc1.sz,hc1.b,hc1.l,hc1.f0,hc1.f⟩
    ·rw [hci.sz]
     obtain ⟨⟨l,h1⟩,h2⟩:=act_res M hd hci (act_ai c.h (fetF c.code c.h.pc).1 S) (fetF c.code c.h.pc).1 pick
     exact ⟨l,h1,h2⟩
  obtain ⟨l,h1,h2⟩:=this
  exact ⟨l,M.put h1 h2 (Nat.le_succ f)⟩
 ·exact ⟨last,M.mono (Nat.le_succ f)⟩
theorem drain_res (M:MS N S f last m) (hi:m.D[i]? = some d) (hc:CI S f c) (pick:Int):∃ last',Ch.SI (m.D.set i (drainR c d pick).2.1) m.h (m.q++msOf (drainR c d pick).2.2) last' 36∧CI S f (drainR c d pick).1:=by
 unfold drainR
 split
 ·exact ⟨last,M.same' hi,hc⟩
 ·rename_i hB
  obtain ⟨s,r,hB'⟩:∃ s r,c.B=s::r:=by
   cases hb:c.B with
   | nil=>rw [hb] at hB;exact absurd rfl hB
   | cons s r=>exact ⟨s,r,rfl⟩
  have hs:StI S s:=hc.b s (by rw [hB'];exact .head _)
  rw [show hdS c.B=s by rw [hB'];rfl]
  obtain ⟨l1,h1⟩:=si_write M.si hi s.addr s.width s.value
  split
  ·have hi1:(m.D.set i (writeF d s.addr s.width s.value).1)[i]? = some (writeF d s.addr s.width s.value).1:=List.getElem?_set_self (List.getElem?_eq_some_iff.1 hi).1
   have h2:=si_askA h1 hi1 ⟨0,s.addr,0,0,0,false,false⟩ (fun hu=>line_in M.e M.s16 hs.w hs.le hu) true pick
   rw [List.set_set] at h2
   exact ⟨l1,h2,hc⟩
  ·have ht:c.B.tail.length+1=c.B.length:=by rw [hB'];rfl
   have hf:=hc.f
   have hl:=hc.l
   have h0:=hc.f0
   refine ⟨l1,?_,hc.sz,fun x hx=>hc.b x (List.mem_of_mem_tail hx),?_,?_,?_⟩
   ·show Ch.SI (m.D.set i (writeF d s.addr s.width s.value).1) m.h (m.q++[]) l1 36
    rw [List.append_nil]
    exact h1
   ·show c.B.tail.length≤4
    omega
   ·show 0≤c.first+1
    omega
   ·show c.first+1+(c.B.tail.length:Int)≤f
    omega
theorem MS.drain (M:MS N S f last m) (i:Nat) (pick:Int):∃ last',MS N S f last' (drainM m i pick).1:=by
 unfold drainM
 split
 ·rename_i c d hc hd
  obtain ⟨l,h1,h2⟩:=drain_res M hd (M.co c (List.mem_of_getElem? hc)) pick
  exact ⟨l,M.put h1 h2 (Nat.le_refl f)⟩
 ·exact ⟨last,M⟩
theorem MS.evict (M:MS N S f last m) (i:Nat) (pick:Int):MS N S f last (evictM m i pick):=by
 unfold evictM
 split
 ·rename_i d hd
  exact M.putD (si_evict M.si hd pick)
 ·exact M
theorem MS.spoil (M:MS N S f last m) (i:Nat):MS N S f last (spoilF m i):=by
 unfold spoilF
 split
 ·rename_i c hc
  have hci:=M.co c (List.mem_of_getElem? hc)
  exact ⟨by show (m.C.set i (c.setR none)).length=N;rw [List.length_set];exact M.c,M.d,M.mo,M.si,M.rg,M.bl,M.s16,M.s8,fun x hx=>by
   have hx:x∈m.C.set i (c.setR none):=hx
   rcases List.mem_or_eq_of_mem_set hx with h | rfl
   ·exact M.co x h
   ·exact ⟨hci.sz,hci.b,hci.l,hci.f0,hci.f⟩⟩
 ·exact M
theorem lost_ci:∀ (n:Nat) (C:List Cor) (D:List CD),(∀ c∈C,CI S f c)→∀ x∈lostL n C D,CI S f x
 | 0,_,_,h=>h
 | _+1,[],_,h=>h
 | _+1,_::_,[],h=>h
 | n+1,c::C,d::D,h=>fun x hx=>by
  have hx:x∈(if lostB c d then c.setR none else c)::lostL n C D:=hx
  rcases List.mem_cons.1 hx with rfl | hx
  ·have hc:=h c (.head _)
   split
   ·exact ⟨hc.sz,hc.b,hc.l,hc.f0,hc.f⟩
   ·exact hc
  ·exact lost_ci n C D (fun y hy=>h y (.tail _ hy)) x hx
theorem lost_B:∀ (n:Nat) (C:List Cor) (D:List CD),(lostL n C D).map Cor.B=C.map Cor.B
 | 0,_,_=>rfl
 | _+1,[],_=>rfl
 | _+1,_::_,[]=>rfl
 | n+1,c::C,d::D=>by
  show (if lostB c d then c.setR none else c).B::(lostL n C D).map Cor.B=c.B::C.map Cor.B
  rw [lost_B n C D]
  split <;> rfl
theorem MS.lost (M:MS N S f last m):MS N S f last (lostM m):=⟨by show (lostL _ _ _).length=N;rw [lost_len];exact M.c,M.d,M.mo,M.si,M.rg,M.bl,M.s16,M.s8,lost_ci _ _ _ M.co⟩
theorem del_perm {q:List Msg} {j:Nat} {x:Msg} (h:q[j]? = some x):q.Perm (x::delF q j):=by
 obtain ⟨hj,hx⟩:=List.getElem?_eq_some_iff.1 h
 have e:q=q.take j++(x::q.drop (j+1)):=by
  rw [← hx,← List.drop_eq_getElem_cons hj,List.take_append_drop]
 exact (List.Perm.of_eq e).trans List.perm_middle
theorem MS.dlv (M:MS N S f last m) (pick:Int) (hq:m.q≠[]):∃ x rest,m.q.Perm (x::rest) ∧
  ((x.dst≠4∧(4≤x.kind∧x.kind≤10)∧∃ d,m.D[x.dst.toNat]? = some d∧Ch.cat m.D x.dst=d∧Ch.SI (m.D.set x.dst.toNat (takeF d x).1) m.h (rest++(takeF d x).2.1) last 36∧delivM m pick=⟨m.C,m.D.set x.dst.toNat (takeF d x).1,m.most,rest++(takeF d x).2.1,m.h⟩) ∨
   (x.dst=4∧Ch.SI m.D (takeH m.h x).1 (rest++(takeH m.h x).2.1) last 37∧delivM m pick=⟨m.C,m.D,m.most,rest++(takeH m.h x).2.1,(takeH m.h x).1⟩)):=by
 have hj:pickAt pick m.q.length<m.q.length:=pickAt_lt _ _ (List.length_pos_iff.2 hq)
 have hx:m.q[pickAt pick m.q.length]? = some m.q[pickAt pick m.q.length]:=List.getElem?_eq_getElem hj
 have hp:=del_perm hx
 have e:delivM m pick=takM m (delF m.q (pickAt pick m.q.length)) m.q[pickAt pick m.q.length]:=by
  unfold delivM
  rw [hx]
 rw [e]
 generalize m.q[pickAt pick m.q.length]=x at hp ⊢
 generalize delF m.q (pickAt pick m.q.length)=rest at hp ⊢
 refine ⟨x,rest,hp,?_⟩
 by_cases hd:x.dst≠4
 ·obtain ⟨d,h1,h2,h3,h4⟩:=si_take M.si hp hd
  refine .inl ⟨hd,h3,d,h1,h2,h4,?_⟩
  unfold takM
  rw [if_pos hd,h1]
  show m.putD x.dst.toNat (takeF d x).1 (sendsF m.most rest (takeF d x).2.1)=_
  rw [M.mo,sends_si h4 M.e8,← M.mo]
  rfl
 ·have hd4:x.dst=4:=Decidable.not_not.1 hd
  obtain ⟨h1,_,h3⟩:=si_home M.si hp hd4
  have hl:=(h3 M.rg).2
  refine .inr ⟨hd4,h1,?_⟩
  unfold takM
  rw [if_neg hd,M.mo,sends_si h1 (by rw [h1.hi.1,hl,M.bl];have:=M.s8;omega),← M.mo]
  rfl
theorem deliv_nil (h:m.q=[]) (pick:Int):delivM m pick=m:=by simp only [delivM,h,List.getElem?_nil]
theorem MS.deliv (M:MS N S f last m) (pick:Int):MS N S f last (delivM m pick):=by
 by_cases hq:m.q=[]
 ·rw [deliv_nil hq]
  exact M
 ·obtain ⟨x,rest,hp,⟨_,_,d,_,_,h4,e⟩ | ⟨hd,h1,e⟩⟩:=M.dlv pick hq
  ·rw [e]
   exact ⟨M.c,by show (m.D.set _ _).length=N;rw [List.length_set];exact M.d,M.mo,h4,M.rg,M.bl,M.s16,M.s8,M.co⟩
  ·obtain ⟨_,_,h3⟩:=si_home M.si hp hd
   obtain ⟨g1,g2⟩:=h3 M.rg
   rw [e]
   exact ⟨M.c,M.d,M.mo,h1.norm,g1,g2.trans M.bl,M.s16,M.s8,M.co⟩
def phiM (m:MD):Nat:=Ch.sumF Ch.cost m.q+Ch.sumF Ch.ecost m.h.E
theorem MS.phi1 (M:MS N S f last m) (pick:Int) (hq:m.q≠[]):phiM (delivM m pick)+1≤phiM m:=by
 obtain ⟨x,rest,hp,⟨_,hk,d,_,_,h4,e⟩ | ⟨hd,h1,e⟩⟩:=M.dlv pick hq
 ·rw [e]
  have h5:=take_cost (d:=d) hk
  have h6:=Ch.sumF_perm Ch.cost hp
  rw [Ch.sumF_cons] at h6
  show Ch.sumF Ch.cost (rest++(takeF d x).2.1)+Ch.sumF Ch.ecost m.h.E+1≤Ch.sumF Ch.cost m.q+Ch.sumF Ch.ecost m.h.E
  rw [Ch.sumF_app]
  omega
 ·rw [e]
  exact (si_home M.si hp hd).2.1
theorem MS.phi (M:MS N S f last m):phiM m≤368:=by
 have:=M.si.phiN
 have:=M.e8
 unfold phiM
 omega
theorem dlv_eq (pick:Int) (m:MD):dlvM pick m=lostM (delivM m pick):=rfl
theorem MS.stp1 (M:MS N S f last m) {x:Cho} (hx:x.kind=1):∃ last',MS N S (f+1) last' (stpM m x):=by
 unfold stpM
 split
 ·rw [show stepK m x=goM m (pickAt x.hart m.C.length) x.pick from if_pos hx]
  obtain ⟨l,h⟩:=M.go (pickAt x.hart m.C.length) x.pick
  exact ⟨l,h.lost⟩
 ·exact ⟨last,M.mono (Nat.le_succ f)⟩
theorem MS.stpO (M:MS N S f last m) {x:Cho} (hx:x.kind≠1):∃ last',MS N S f last' (stpM m x):=by
 unfold stpM
 split
 ·have:∃ last',MS N S f last' (stepK m x).1:=by
   unfold stepK
   rw [if_neg hx]
   split
   ·exact M.drain _ _
   ·split
    ·exact ⟨last,M.deliv x.pick⟩
    ·split
     ·exact ⟨last,M.evict _ _⟩
     ·exact ⟨last,M.spoil _⟩
  obtain ⟨l,h⟩:=this
  exact ⟨l,h.lost⟩
 ·exact ⟨last,M⟩
theorem ms_stp (N S:Nat):StP fun m=>∃ last,MS N S 200 last m where
 n:=fun m ⟨last,M⟩ y hy=>by
  rcases (M.si.good y hy).cases with ⟨h,_⟩ | ⟨h,_⟩
  ·exact .inl h
  ·rw [M.c,← M.d]
   exact .inr h
 f:=fun m ⟨last,M⟩=>⟨fun c hc=>by
  have:=(M.co c hc).f
  have:=(M.co c hc).f0
  omega,fun n hn=>Nat.le_trans (M.si.qlen hn) (by decide)⟩
 s:=fun m x ⟨last,M⟩ _ hx=>M.stpO hx
end
theorem pick_self {i n:Nat} (h:i<n):pickAt (i:Int) n=i:=by
 have e1:Int.tmod (i:Int) (n:Int)=i:=by
  rw [Int.tmod_eq_emod_of_nonneg (by omega)]
  exact Int.emod_eq_of_lt (by omega) (by omega)
 have e2:((i:Int)+(n:Int))%(n:Int)=i:=by
  rw [Int.add_emod_right]
  exact Int.emod_eq_of_lt (by omega) (by omega)
 unfold pickAt
 rw [e1,Int.tmod_eq_emod_of_nonneg (by omega),e2]
 exact Int.toNat_natCast i
theorem dlvs_suc (pick:Int):∀ (n:Nat) (m:MD),dlvs pick (n+1) m=dlvs pick n (dlvM pick m)
 | 0,m=>rfl
 | n+1,m=>by
  show dlvM pick (dlvs pick (n+1) m)=dlvM pick (dlvs pick n (dlvM pick m))
  rw [dlvs_suc pick n m]
theorem keep_dlvs {I:MD→Prop} {pick:Int} (hI:∀ m,I m→I (dlvM pick m)) {m:MD} (h:I m):∀ n,I (dlvs pick n m)
 | 0=>h
 | n+1=>hI _ (keep_dlvs hI h n)
section
variable {N S f:Nat} {last:Nat→B16} {m m':MD} {i j:Nat} {d:CD} {c:Cor} {pick:Int}
theorem calm_ends:∀ (p:Nat) (m:MD),MS N S f last m→phiM m≤p→∃ n,n≤p∧(dlvs pick n m).q=[]
 | 0,m,M,hp=>⟨0,Nat.le_refl _,by
  by_cases hq:m.q=[]
  ·exact hq
  ·have h1:=M.phi1 pick hq
   omega⟩
 | p+1,m,M,hp=>by
  by_cases hq:m.q=[]
  ·exact ⟨0,Nat.zero_le _,hq⟩
  ·have h1:=M.phi1 pick hq
   obtain ⟨n,hn,hz⟩:=calm_ends p (dlvM pick m) (M.deliv pick).lost (by show phiM (delivM m pick)≤p;omega)
   exact ⟨n+1,by omega,by rw [dlvs_suc];exact hz⟩
structure Kp (N S f:Nat) (last:Nat→B16) (Bs:List (List Sto)) (Q:List CD→Prop) (m:MD):Prop where
 ms:MS N S f last m
 b:m.C.map Cor.B=Bs
 d:Q m.D
theorem Kp.dlv {Bs:List (List Sto)} {Q:List CD→Prop} (hQ:∀ (D:List CD) (h:HD) (q rest:List Msg) (x:Msg) (d:CD),Ch.SI D h q last 36→q.Perm (x::rest)→x.dst≠4→Ch.cat D x.dst=d→D[x.dst.toNat]? = some d→Q D→Q (D.set x.dst.toNat (takeF d x).1)) (m:MD) (K:Kp N S f last Bs Q m):Kp N S f last Bs Q (dlvM pick m):=by
 rw [dlv_eq]
 refine ⟨(K.ms.deliv pick).lost,?_,?_⟩
 ·show (lostL (delivM m pick).C.length (delivM m pick).C (delivM m pick).D).map Cor.B=Bs
  rw [lost_B]
  by_cases hq:m.q=[]
  ·rw [deliv_nil hq]
   exact K.b
  ·obtain ⟨x,rest,hp,⟨_,_,d,_,_,h4,e⟩ | ⟨hd,h1,e⟩⟩:=K.ms.dlv pick hq
   ·rw [e]
    exact K.b
   ·rw [e]
    exact K.b
 ·show Q (delivM m pick).D
  by_cases hq:m.q=[]
  ·rw [deliv_nil hq]
   exact K.d
  ·obtain ⟨x,rest,hp,⟨h0,_,d,h2,h3,h4,e⟩ | ⟨hd,h1,e⟩⟩:=K.ms.dlv pick hq
   ·rw [e]
    exact hQ _ _ _ _ x d K.ms.si hp h0 h3 h2 K.d
   ·rw [e]
    exact K.d
theorem hq_jw {line:Int}:∀ (D:List CD) (h:HD) (q rest:List Msg) (x:Msg) (d:CD),Ch.SI D h q last 36→q.Perm (x::rest)→x.dst≠4→Ch.cat D x.dst=d→D[x.dst.toNat]? = some d→Ch.JW D line i→Ch.JW (D.set x.dst.toNat (takeF d x).1) line i:=fun D h q rest x d s hp hd hc _ hj=>by
 have:=hj.cache s hp hd
 rwa [hc,ch_take] at this
def needL (d:CD):List Sto→Nat
 | []=>0
 | s::r=>2*(r.length+1)-(if writesB (stateOf d.L (s.addr/16))=true then 1 else 0)
theorem need_le (d:CD):∀ B,needL d B≤2*B.length
 | []=>Nat.le_refl _
 | s::r=>Nat.sub_le _ _
theorem need_w {s:Sto} {r:List Sto} (h:writesB (stateOf d.L (s.addr/16))=true):needL d (s::r)=2*r.length+1:=by
 show 2*(r.length+1)-(if writesB (stateOf d.L (s.addr/16))=true then 1 else 0)=_
 rw [if_pos h]
 omega
theorem need_n {s:Sto} {r:List Sto} (h:¬ writesB (stateOf d.L (s.addr/16))=true):needL d (s::r)=2*r.length+2:=by
 show 2*(r.length+1)-(if writesB (stateOf d.L (s.addr/16))=true then 1 else 0)=_
 rw [if_neg h]
 omega
structure HA (N S i j:Nat) (m:MD):Prop where
 il:i≤N
 ms:∃ last,MS N S 200 last m
 q:m.q=[]
 b:∀ i' c,i'<i→m.C[i']? = some c→c.B=[]
 n:∀ c d,m.C[i]? = some c→m.D[i]? = some d→j+needL d c.B≤8
theorem right_st {s:Sto} (hs:StI S s):¬ rightA s.addr s.width=false:=by
 have h:=hs.al
 unfold rightA
 rcases hs.w with e | e | e <;> rw [e] at h ⊢ <;> simp [h]
theorem drain_w {s:Sto} {r:List Sto} (hs:StI S s) (hB:c.B=s::r) (hw:writesB (stateOf d.L (s.addr/16))=true):(drainR c d pick).1.B=r:=by
 have hp:putE d.n d.ways d.L (wrLn (fndL d.L (s.addr/16)) s.addr s.width s.value)=0:=Ch.put_there (num:=s.addr/16) hw _ rfl rfl
 have e:(writeF d s.addr s.width s.value).2=0:=by
  unfold writeF
  rw [if_neg (right_st hs),if_neg (by rw [hw];decide)]
  exact hp
 unfold drainR
 rw [show hdS c.B=s by rw [hB];rfl,if_neg (show ¬ hdB c.B=false by rw [hB];exact fun h=>by cases h),if_neg (fun h=>h e)]
 show c.B.tail=r
 rw [hB]
 rfl
theorem drain_n {s:Sto} {r:List Sto} (hs:StI S s) (hB:c.B=s::r) (hw:¬ writesB (stateOf d.L (s.addr/16))=true):(drainR c d pick).1=c∧(drainR c d pick).2.1=(askF d (s.addr/16) (u32_q hs.u).2 true pick).1:=by
 have e:writeF d s.addr s.width s.value=(d,232):=by
  unfold writeF
  rw [if_neg (right_st hs),if_pos (by simpa using hw)]
 unfold drainR
 rw [show hdS c.B=s by rw [hB];rfl,if_neg (show ¬ hdB c.B=false by rw [hB];exact fun h=>by cases h),e,if_pos (show ¬ (232:Int)=0 by decide)]
 refine ⟨rfl,?_⟩
 show (askA d ⟨0,s.addr,0,0,0,false,false⟩ true pick).1=_
 unfold askA
 rw [dif_pos (show U32 s.addr from hs.u)]
theorem HA.next (A:HA N S i j m) (hi:i<N) {last':Nat→B16} {X:List Sto} (hq:m'.q=[]) (M:MS N S 200 last' m') (hB:m'.C.map Cor.B=(m.C.map Cor.B).set i X) (hn:∀ d,m'.D[i]? = some d→j+1+needL d X≤8):HA N S i (j+1) m':=by
 obtain ⟨l0,M0⟩:=A.ms
 refine ⟨A.il,⟨_,M⟩,hq,fun i' c hi' hc=>?_,fun c d hc hd=>?_⟩
 ·have e:(m'.C.map Cor.B)[i']? = ((m.C.map Cor.B).set i X)[i']? := by rw [hB]
  rw [List.getElem?_map,hc,List.getElem?_set_ne (by omega),List.getElem?_map] at e
  cases hx:m.C[i']? with
  | none=>rw [hx] at e;cases e
  | some y=>
   rw [hx] at e
   have e2:c.B=y.B:=Option.some.inj e
   rw [e2]
   exact A.b i' y hi' hx
 ·have e:(m'.C.map Cor.B)[i]? = ((m.C.map Cor.B).set i X)[i]? := by rw [hB]
  rw [List.getElem?_map,hc,List.getElem?_set_self (by rw [List.length_map,M0.c];exact hi)] at e
  have e2:c.B=X:=Option.some.inj e
  rw [e2]
  exact hn d hd
theorem HA.one (A:HA N S i j m) (h:i<m.C.length) (hne:m.C[i].B≠[]) (hc:Calm pick (stpM m ⟨2,i,pick⟩) m'):HA N S i (j+1) m':=by
 obtain ⟨last,M⟩:=A.ms
 have hiN:i<N:=by rw [← M.c];exact h
 have hcg:m.C[i]? = some m.C[i]:=List.getElem?_eq_getElem h
 obtain ⟨d,hd⟩:∃ d,m.D[i]? = some d:=⟨_,List.getElem?_eq_getElem (by rw [M.d];exact hiN)⟩
 generalize m.C[i]=c at hcg hne
 obtain ⟨s,r,hB⟩:∃ s r,c.B=s::r:=by
  cases hb:c.B with
  | nil=>exact absurd hb hne
  | cons s r=>exact ⟨s,r,rfl⟩
 have hci:=M.co c (List.mem_of_getElem? hcg)
 have hs:StI S s:=hci.b s (by rw [hB];exact .head _)
 have hnd:=A.n c d hcg hd
 rw [hB] at hnd
 have hst:stpM m ⟨2,i,pick⟩=lostM (drainM m i pick).1:=by
  show lostM (drainM m (pickAt (i:Int) m.C.length) pick).1=_
  rw [pick_self h]
 have hdr:(drainM m i pick).1=m.put i (drainR c d pick).1 (drainR c d pick).2.1 (sendsF m.most m.q (msOf (drainR c d pick).2.2)):=by
  simp only [drainM,hcg,hd]
 obtain ⟨l1,M1⟩:=M.stpO (x:=⟨2,i,pick⟩) (show (2:Int)≠1 by decide)
 have hB1:(stpM m ⟨2,i,pick⟩).C.map Cor.B=(m.C.map Cor.B).set i (drainR c d pick).1.B:=by
  rw [hst,hdr]
  show (lostL _ (m.C.set i (drainR c d pick).1) _).map Cor.B=_
  rw [lost_B,List.map_set]
 obtain ⟨hq,n,rfl⟩:=hc
 by_cases hw:writesB (stateOf d.L (s.addr/16))=true
 ·have K:Kp N S 200 l1 _ (fun _=>True) (dlvs pick n (stpM m ⟨2,i,pick⟩)):=keep_dlvs (I:=Kp N S 200 l1 _ (fun _=>True)) (fun m K=>K.dlv fun _ _ _ _ _ _ _ _ _ _ _ _=>trivial) ⟨M1,hB1,trivial⟩ n
  rw [need_w hw] at hnd
  refine A.next hiN hq K.ms K.b fun d' _=>?_
  rw [drain_w hs hB hw]
  have:=need_le d' r
  omega
 ·obtain ⟨e1,e2⟩:=drain_n (pick:=pick) hs hB hw
  have hsi:Ch.SI m.D m.h [] last 36:=by
   have:=M.si
   rwa [A.q] at this
  obtain ⟨ha,hg⟩:=hsi.none hd
  have hJ:Ch.JW (stpM m ⟨2,i,pick⟩).D (s.addr/16) i:=by
   rw [hst,hdr]
   show Ch.JW (m.D.set i (drainR c d pick).2.1) (s.addr/16) i
   rw [e2,← ch_ask]
   exact Ch.JW.init hsi hd (Ch.askW ha hg _ hw pick)
  have K:Kp N S 200 l1 _ (fun D=>Ch.JW D (s.addr/16) i) (dlvs pick n (stpM m ⟨2,i,pick⟩)):=keep_dlvs (I:=Kp N S 200 l1 _ (fun D=>Ch.JW D (s.addr/16) i)) (fun m K=>K.dlv hq_jw) ⟨M1,hB1,hJ⟩ n
  rw [need_n hw] at hnd
  refine A.next hiN hq K.ms K.b fun d' hd'=>?_
  rw [e1,hB,need_w (K.d.done (by have:=K.ms.si;rwa [hq] at this) hd')]
  omega
theorem HA.two (A:HA N S i j m) (h:i<m.C.length) (hj:j=16∨m.C[i].B=[]):m.C[i].B=[]∧HA N S (i+1) 0 m:=by
 obtain ⟨last,M⟩:=A.ms
 have hiN:i<N:=by rw [← M.c];exact h
 have hcg:m.C[i]? = some m.C[i]:=List.getElem?_eq_getElem h
 obtain ⟨d,hd⟩:∃ d,m.D[i]? = some d:=⟨_,List.getElem?_eq_getElem (by rw [M.d];exact hiN)⟩
 have hnd:=A.n _ d hcg hd
 have hz:m.C[i].B=[]:=hj.resolve_left (by omega)
 refine ⟨hz,hiN,⟨last,M⟩,A.q,fun i' c hi' hc=>?_,fun c d hc hd=>?_⟩
 ·by_cases e:i'=i
  ·subst e
   rw [hcg] at hc
   cases hc
   exact hz
  ·exact A.b i' c (by omega) hc
 ·have:=need_le d c.B
  have:=(M.co c (List.mem_of_getElem? hc)).l
  omega
theorem HA.zero {m0:MD} (hM:∃ last,MS N S 200 last m0) (hpk : -9223372036854775808≤pick∧pick≤9223372036854775807) (hc:Calm pick m0 m):HA N S 0 0 m:=by
 obtain ⟨hq,n,rfl⟩:=hc
 obtain ⟨last,M⟩:=dlvs_P (ms_stp N S) hpk hM n
 refine ⟨Nat.zero_le _,⟨last,M⟩,hq,fun i' c hi' hc=>by omega,fun c d hc hd=>?_⟩
 have:=need_le d c.B
 have:=(M.co c (List.mem_of_getElem? hc)).l
 omega
end
theorem line_of {bs:List Int} {k:Nat} (hb:Rg bs) (hk:k<bs.length/16) {b:B16} (h:lineB bs (k:Int)=b):lineF bs k=b.1:=by
 have hl:(lineF bs (k:Int).toNat).length=16∧∀ a∈lineF bs (k:Int).toNat,0≤a∧a<256:=by
  rw [Int.toNat_natCast,Ch.lineF_at]
  exact ⟨by rw [List.length_take,List.length_drop];omega,fun a ha=>hb a (List.mem_of_mem_drop (List.mem_of_mem_take ha))⟩
 subst h
 unfold lineB
 rw [dif_pos hl]
 rfl
theorem lines_eq {a b:List Int} (h:a.length=b.length) (h16:a.length%16=0) (hl:∀ k,k<a.length/16→lineF a k=lineF b k):a=b:=by
 apply List.ext_getElem?
 intro i
 by_cases hi:i<a.length
 ·have e:=hl (i/16) (by omega)
  rw [Ch.lineF_at,Ch.lineF_at] at e
  have e2:((a.drop (16*(i/16))).take 16)[i%16]? = ((b.drop (16*(i/16))).take 16)[i%16]? := by rw [e]
  rw [List.getElem?_take_of_lt (by omega),List.getElem?_take_of_lt (by omega),List.getElem?_drop,List.getElem?_drop,show 16*(i/16)+i%16=i by omega] at e2
  exact e2
 ·rw [List.getElem?_eq_none (by omega),List.getElem?_eq_none (by omega)]
theorem setB_line {bs:List Int} {x:Ln} {k:Nat} (hk:k<bs.length/16):lineF (setB bs x) k=if x.num=(k:Int) then x.bs.1 else lineF bs k:=by
 have:=x.hn
 unfold setB
 split
 ·rename_i hx
  rw [Ch.lineF_set _ _ _ _ x.bs.2.1 hx hk]
  by_cases e:x.num=(k:Int)
  ·rw [if_pos (show k=x.num.toNat by omega),if_pos e]
  ·rw [if_neg (show ¬ k=x.num.toNat by omega),if_neg e]
 ·rw [if_neg (show ¬ x.num=(k:Int) by omega)]
theorem setBs_line {k:Nat} {b:List Int}:∀ (l:List Ln) (bs:List Int),k<bs.length/16→(∀ x∈l,x.num=(k:Int)→x.bs.1=b)→(lineF bs k=b∨∃ x∈l,x.num=(k:Int))→lineF (l.foldl setB bs) k=b
 | [],bs,hk,hx,h=>by
  rcases h with h | ⟨x,hx,_⟩
  ·exact h
  ·cases hx
 | x::r,bs,hk,hx,h=>by
  refine setBs_line r (setB bs x) (by rw [setB_len];exact hk) (fun y hy=>hx y (.tail _ hy)) ?_
  rw [setB_line hk]
  by_cases e:x.num=(k:Int)
  ·rw [if_pos e]
   exact .inl (hx x (.head _) e)
  ·rw [if_neg e]
   rcases h with h | ⟨y,hy,hn⟩
   ·exact .inl h
   ·rcases List.mem_cons.1 hy with rfl | hy
    ·exact absurd hn e
    ·exact .inr ⟨y,hy,hn⟩
theorem in_allL {n:Nat} (hn:0<n) {L:List Ln} {x:Ln} (h:x∈L):x∈allL n L:=List.mem_flatMap.2 ⟨si n x.num,List.mem_range.2 (si_lt hn),Ch.mem_ofs h⟩
section
variable {N S f:Nat} {last:Nat→B16} {m m':MD} {i j:Nat} {d:CD} {c:Cor} {pick:Int} {w:List Int}
theorem MS.si0 (M:MS N S f last m) (hq:m.q=[]):Ch.SI m.D m.h [] last 36:=by
 have:=M.si
 rwa [hq] at this
theorem over_q (M:MS N S f last m) (hq:m.q=[]):overL m=over3 m.D m.D.length:=by
 have h2:over2 m.h m.D m.D.length=[]:=by
  unfold over2
  rw [List.flatMap_eq_nil_iff]
  intro j hj
  have hj:=List.mem_range.1 hj
  have hd:m.D[j]? = some m.D[j]:=List.getElem?_eq_getElem hj
  have hg:=((M.si0 hq).none hd).2
  have e:(m.D.getD j cd0).giv=none:=by
   rw [List.getD_eq_getElem?_getD,hd]
   exact hg
  rw [e]
  rfl
 unfold overL
 rw [hq,h2]
 rfl
theorem mem_over {D:List CD} {x:Ln} (h:x∈over3 D D.length):∃ (c:Nat) (d:CD),D[c]? = some d∧x∈d.L:=by
 unfold over3 at h
 rw [List.take_length] at h
 obtain ⟨d,hd,hx⟩:=List.mem_flatMap.1 h
 obtain ⟨c,hc⟩:=List.mem_iff_getElem?.1 hd
 exact ⟨c,d,hc,Ch.mem_allL (List.mem_filter.1 hx).1⟩
theorem mem_line (M:MS N S f last m) (hq:m.q=[]):(memF m).length=S∧∀ k,k<S/16→lineF (memF m) k=(last k).1:=by
 have s:=M.si0 hq
 unfold memF
 refine ⟨(setBs_len _ _).trans M.bl,fun k hk=>?_⟩
 have hkE:k<m.h.E.length:=by rw [M.e];exact hk
 have hkb:k<m.h.bs.length/16:=by rw [M.bl];exact hk
 have hli:=s.li k hkE
 unfold Ch.LS at hli
 rw [over_q M hq]
 have get:∀ {c:Nat} {d:CD} {x:Ln},m.D[c]? = some d→x∈d.L→x.num=(k:Int)→(Ch.vw m.D k (c:Int)).s=x.state∧(Ch.vw m.D k (c:Int)).b=x.bs:=fun {c d x} hc hx hn=>by
  have h1:=at_lt hc
  have hdo:=(s.ok (c:Int) (by omega) h1).1
  rw [cat_at hc] at hdo
  have hg:=Ch.get_mem hdo.uniq hx
  rw [hn] at hg
  unfold Ch.vw
  rw [cat_at hc]
  constructor
  ·show ((getN d.L (k:Int)).getD ln0).state=_
   rw [hg]
   rfl
  ·show ((getN d.L (k:Int)).getD ln0).bs=_
   rw [hg]
   rfl
 refine setBs_line _ _ hkb (fun x hx hn=>?_) ?_
 ·obtain ⟨c,d,hc,hxd⟩:=mem_over hx
  have h1:=at_lt hc
  have hdo:=(s.ok (c:Int) (by omega) h1).1
  rw [cat_at hc] at hdo
  obtain ⟨g1,g2⟩:=get hc hxd hn
  have:=Ch.has_li hli ⟨by omega,h1⟩ (by rw [g1];have:=hdo.st x hxd;omega)
  rw [g2] at this
  rw [this]
 ·have hb:=hli.quiet
  rcases (hli.idle hb).2.1 with ⟨h0,hH,_⟩ | ⟨_,hS⟩
  ·rcases hH with ⟨hw,_⟩ | ⟨_,hg,_⟩
   ·have ho:=hli.own
    generalize (entOf m.h.E k).o=o at h0 hw ho
    have hc:m.D[o.toNat]? = some (Ch.cat m.D o):=cat_get h0 ho
    have hdo:=(s.ok o h0 ho).1
    have hw':Ch.wr (Ch.stateOf (Ch.cat m.D o).L (k:Int)):=hw
    obtain ⟨x,hx1,hx2,hx3⟩:=Ch.there_of (Ch.wr_ne hw').1
    have hxs:Ch.stateOf (Ch.cat m.D o).L (k:Int)=x.state:=by
     show ((getN (Ch.cat m.D o).L (k:Int)).getD ln0).state=_
     rw [hx2]
    rw [hxs] at hw'
    have hne:=(Ch.wr_ne hw').2
    refine .inr ⟨x,?_,hx3⟩
    unfold over3
    rw [List.take_length]
    exact List.mem_flatMap.2 ⟨_,List.mem_of_getElem? hc,List.mem_filter.2 ⟨in_allL hdo.bd.1 (Ch.mem_of_get hx1),by simpa using hne⟩⟩
   ·have:=(s.quiet h0 hli.own (k:Int)).2
    rw [this] at hg
    cases hg
  ·exact .inl (line_of M.rg hkb hS.1)
structure HE (N S:Nat) (w:List Int) (i j:Nat) (m:MD):Prop where
 il:i≤N
 ms:∃ last,MS N S 200 last m∧∀ k,k<S/16→lineF w k=(last k).1
 wl:w.length=S
 q:m.q=[]
 b:∀ i' d,i'<i→m.D[i']? = some d→d.L=[]
 n:∀ d,m.D[i]? = some d→j+d.L.length≤8
theorem lines8 (M:MS N S f last m) (hd:m.D[i]? = some d):d.L.length≤8:=by
 have s:=M.si
 have h1:=at_lt hd
 obtain ⟨hdo,_⟩:=s.ok (i:Int) (by omega) h1
 rw [cat_at hd] at hdo
 have hlow:∀ x∈d.L,x.num.toNat<m.h.E.length:=fun x hx=>by
  have:=x.hn
  refine s.low (c:=(i:Int)) (by omega) h1 (n:=x.num) (by omega) ?_
  rw [cat_at hd]
  unfold Ch.stateOf
  rw [Ch.get_mem hdo.uniq hx]
  have:=hdo.st x hx
  show x.state≠0
  omega
 have hnd:(d.L.map Ln.num).Nodup:=List.pairwise_map.2 hdo.uniq
 have:=Ch.nodup_sub (d.L.map Ln.num) (Ch.rng m.h.E.length) hnd fun z hz=>by
  obtain ⟨x,hx,rfl⟩:=List.mem_map.1 hz
  have:=hlow x hx
  have:=x.hn
  exact Ch.rng_mem (by omega) (by omega)
 rw [List.length_map,Ch.rng_len] at this
 have:=M.e8
 omega
theorem ca_at (hd:m.D[i]? = some d):m.ca i=d:=by
 unfold MD.ca
 rw [List.getD_eq_getElem?_getD,hd]
 rfl
theorem lines_nil (M:MS N S f last m) (hd:m.D[i]? = some d):linesM m i=[]↔d.L=[]:=by
 have h1:=at_lt hd
 obtain ⟨hdo,_⟩:=M.si.ok (i:Int) (by omega) h1
 rw [cat_at hd] at hdo
 have e:linesM m i=allL d.n d.L:=by
  show allL (m.ca i).n (m.ca i).L=_
  rw [ca_at hd]
 rw [e,← List.length_eq_zero_iff,allL_len hdo.bd.1,List.length_eq_zero_iff]
theorem evict_less (hdo:Ch.DOk d) (ha:d.ask=none) (hg:d.giv=none) (hL:d.L≠[]):(evictF d pick).1.ask=none∧(evictF d pick).1.L.length+1≤d.L.length:=by
 have hp:pickAt pick d.L.length<(allL d.n d.L).length:=by
  rw [allL_len hdo.bd.1]
  exact pickAt_lt _ _ (List.length_pos_iff.2 hL)
 have hx:(allL d.n d.L).getD (pickAt pick d.L.length) ln0∈d.L:=by
  refine Ch.mem_allL (n:=d.n) ?_
  simp [List.getD,hp]
 unfold evictF
 rw [if_neg hL]
 generalize (allL d.n d.L).getD (pickAt pick d.L.length) ln0=x at hx ⊢
 have hl:(dropL d.L x.num).length+1≤d.L.length:=Ch.drop_lt ⟨x,hx,rfl⟩
 show (outF d x).1.ask=none∧(outF d x).1.L.length+1≤d.L.length
 unfold outF
 split
 ·exact ⟨ha,hl⟩
 ·rw [hg]
  exact ⟨ha,hl⟩
theorem HE.zero (A:HA N S N 0 m):HE N S (memF m) 0 0 m:=by
 obtain ⟨last,M⟩:=A.ms
 obtain ⟨h1,h2⟩:=mem_line M A.q
 exact ⟨Nat.zero_le _,⟨last,M,h2⟩,h1,A.q,fun i' d hi=>by omega,fun d hd=>by have:=lines8 M hd;omega⟩
theorem HE.one (A:HE N S w i j m) (hiN:i<N) (hne:linesM m i≠[]) (hc:Calm pick (stpM m ⟨4,i,pick⟩) m'):HE N S w i (j+1) m':=by
 obtain ⟨last,M,hw⟩:=A.ms
 obtain ⟨d,hd⟩:∃ d,m.D[i]? = some d:=⟨_,List.getElem?_eq_getElem (by rw [M.d];exact hiN)⟩
 have s:=M.si0 A.q
 have h1:=at_lt hd
 obtain ⟨hdo,_⟩:=s.ok (i:Int) (by omega) h1
 rw [cat_at hd] at hdo
 obtain ⟨ha,hg⟩:=s.none hd
 have hL:d.L≠[]:=fun e=>hne ((lines_nil M hd).2 e)
 obtain ⟨v1,v2⟩:=evict_less (pick:=pick) hdo ha hg hL
 have hst:stpM m ⟨4,i,pick⟩=lostM (evictM m i pick):=by
  show lostM (evictM m (pickAt (i:Int) m.C.length) pick)=_
  rw [pick_self (by rw [M.c];exact hiN)]
 have hev:evictM m i pick=m.putD i (evictF d pick).1 (sendsF m.most m.q (evictF d pick).2):=by
  simp only [evictM,hd]
 have M1:MS N S 200 last (stpM m ⟨4,i,pick⟩):=by
  rw [hst]
  exact (M.evict i pick).lost
 have hnd:=A.n d hd
 obtain ⟨hq,n,rfl⟩:=hc
 -- how many lines a cache has at most
 have K:Kp N S 200 last ((stpM m ⟨4,i,pick⟩).C.map Cor.B) (fun D=>∀ (z:Nat) (e:CD),D[z]? = some e→e.ask=none∧(z=i→e.L.length+1≤d.L.length)∧(z<i→e.L=[])) (dlvs pick n (stpM m ⟨4,i,pick⟩)):=by
  refine keep_dlvs (I:=Kp N S 200 last _ _) (fun m K=>K.dlv ?_) ⟨M1,rfl,?_⟩ n
  ·intro D h q rest x e0 _ _ _ _ he0 hD z e he
   by_cases hz:x.dst.toNat=z
   ·subst hz
    rw [List.getElem?_set_self (List.getElem?_eq_some_iff.1 he0).1] at he
    obtain ⟨y1,y2,y3⟩:=hD _ e0 he0
    obtain ⟨t1,t2⟩:=take_less y1 x
    cases he
    refine ⟨t1,fun hz=>?_,fun hz=>?_⟩
    ·have:=y2 hz
     omega
    ·rw [y3 hz] at t2
     exact List.eq_nil_of_length_eq_zero (Nat.le_zero.1 t2)
   ·rw [List.getElem?_set_ne hz] at he
    exact hD z e he
  ·rw [hst,hev]
   intro z e he
   have he:(m.D.set i (evictF d pick).1)[z]? = some e:=he
   by_cases hz:i=z
   ·subst hz
    rw [List.getElem?_set_self (List.getElem?_eq_some_iff.1 hd).1] at he
    cases he
    exact ⟨v1,fun _=>v2,fun h=>absurd h (Nat.lt_irrefl _)⟩
   ·rw [List.getElem?_set_ne hz] at he
    exact ⟨(s.none he).1,fun h=>absurd h.symm hz,fun h=>A.b z e h he⟩
 refine ⟨A.il,⟨last,K.ms,hw⟩,A.wl,hq,fun i' e hi' he=>(K.d i' e he).2.2 hi',fun e he=>?_⟩
 have:=(K.d i e he).2.1 rfl
 omega
theorem HE.two (A:HE N S w i j m) (hiN:i<N) (hj:j=16∨linesM m i=[]):linesM m i=[]∧HE N S w (i+1) 0 m:=by
 obtain ⟨last,M,hw⟩:=A.ms
 obtain ⟨d,hd⟩:∃ d,m.D[i]? = some d:=⟨_,List.getElem?_eq_getElem (by rw [M.d];exact hiN)⟩
 have hnd:=A.n d hd
 have hz:linesM m i=[]:=hj.resolve_left (by omega)
 have hL:=(lines_nil M hd).1 hz
 refine ⟨hz,hiN,⟨last,M,hw⟩,A.wl,A.q,fun i' e hi' he=>?_,fun e he=>by have:=lines8 M he;omega⟩
 by_cases h:i'=i
 ·subst h
  rw [hd] at he
  cases he
  exact hL
 ·exact A.b i' e (by omega) he
theorem HE.done (A:HE N S w N 0 m):m.h.bs=w∧memF m=w∧∀ k,k<m.h.E.length→(entOf m.h.E k).busy=false:=by
 obtain ⟨last,M,hw⟩:=A.ms
 have s:=M.si0 A.q
 obtain ⟨h1,h2⟩:=mem_line M A.q
 have e:memF m=w:=lines_eq (h1.trans A.wl.symm) (by rw [h1];exact M.s16) fun k hk=>by
  rw [h1] at hk
  rw [h2 k hk,hw k hk]
 have ho:overL m=[]:=by
  rw [over_q M A.q]
  unfold over3
  rw [List.take_length,List.flatMap_eq_nil_iff]
  intro d hd
  obtain ⟨c,hc⟩:=List.mem_iff_getElem?.1 hd
  have hl:=(List.getElem?_eq_some_iff.1 hc).1
  have hL:=A.b c d (by rw [← M.d];exact hl) hc
  have hz:allL d.n d.L=[]:=by
   rw [hL]
   unfold allL
   rw [List.flatMap_eq_nil_iff]
   intro z _
   rfl
  rw [hz]
  rfl
 have e2:memF m=m.h.bs:=by
  unfold memF
  rw [ho]
  rfl
 refine ⟨e2.symm.trans e,e,fun k hk=>?_⟩
 have hli:=s.li k hk
 unfold Ch.LS at hli
 exact hli.quiet
end
theorem sz_16 {n:Nat} (h:szF n=false) (hn:n≤128):n%16=0:=by
 have:∀ k:_root_.Fin 129,szF (k.1:Int)=false→k.1%16=0:=by decide +kernel
 exact this ⟨n,by omega⟩ h
theorem ms_init {x:Wld} (hr:Rg x.bs) (hok:x.ok=true) (hb:x.bs.length≤128):MS x.l.length x.bs.length 0 (fun k=>lineB x.bs k) x.m:=by
 unfold Wld.ok at hok
 simp only [Bool.and_eq_true,Bool.not_eq_true'] at hok
 obtain ⟨hz,hn⟩:=hok
 unfold newOk at hn
 simp only [Bool.and_eq_true,decide_eq_true_eq] at hn
 obtain ⟨⟨⟨h1,h4⟩,hR⟩,_⟩:=hn
 have hlen:(cdsOf x.l).length=x.l.length:=List.length_map _
 rw [hlen] at h1 h4
 have hs1:=(right_yes hR).1
 have hrb:=right_bd (n:=x.sets.toNat) (ways:=x.ways) (by rw [show ((x.sets.toNat:Nat):Int)=x.sets by omega];exact hR)
 have hsi:=Ch.SI.init (many:=x.l.length) (n:=x.sets.toNat) (ways:=x.ways) ⟨h1,h4⟩ hrb x.bs
 have eD:x.m.D=Ch.cs0 x.l.length x.sets.toNat x.ways:=by
  show cachesF x.sets x.ways (cdsOf x.l).length=_
  rw [hlen]
  rfl
 refine ⟨?_,?_,rfl,?_,hr,rfl,sz_16 hz hb,hb,?_⟩
 ·show ((List.range (cdsOf x.l).length).map _).length=_
  rw [List.length_map,List.length_range,hlen]
 ·rw [eD]
  unfold Ch.cs0
  rw [List.length_map,List.length_range]
 ·show Ch.SI x.m.D (home0 x.bs) [] _ 36
  rw [eD]
  exact hsi.mono (Nat.zero_le _)
 ·intro c hc
  have hc:c∈(List.range (cdsOf x.l).length).map fun i=>newC i (x.bs.length:Int) ((cdsOf x.l).getD i []):=hc
  obtain ⟨i,_,rfl⟩:=List.mem_map.1 hc
  exact ⟨rfl,fun s hs=>(by cases hs),Nat.zero_le _,Int.le_refl _,Int.le_refl _⟩
theorem ms_run {x:Wld} {ls:List Cho} (hr:Rg x.bs) (hok:x.ok=true) (hb:x.bs.length≤128):∀ i,i≤ls.length→∃ last,MS x.l.length x.bs.length i last ((ls.take i).foldl stpM x.m)
 | 0,_=>⟨_,ms_init hr hok hb⟩
 | i+1,hi=>by
  obtain ⟨last,M⟩:=ms_run (ls:=ls) hr hok hb i (by omega)
  rw [← take_fold hi]
  by_cases h:ls[i].kind=1
  ·exact M.stp1 h
  ·obtain ⟨l,M1⟩:=M.stpO h
   exact ⟨l,M1.mono (Nat.le_succ i)⟩
def hm_I {x:Wld} {pick:Int} {ls:List Cho} (hr:Rg x.bs) (hpk : -9223372036854775808≤pick∧pick≤9223372036854775807) (hok:x.ok=true) (hf:x.Few ls.length):HmI pick x.l.length ls x.m where
 P:=fun m=>∃ last,MS x.l.length x.bs.length 200 last m
 A:=fun i j m=>HA x.l.length x.bs.length i j m
 E:=fun w i j m=>HE x.l.length x.bs.length w i j m
 st:=ms_stp _ _
 len:=fun m ⟨last,M⟩=>M.c
 dl:=fun m ⟨last,M⟩=>M.d
 p0:=⟨_,(ms_init hr hok hf.b).mono (Nat.zero_le _)⟩
 fo:=fun i hi=>by
  obtain ⟨last,M⟩:=ms_run (ls:=ls) hr hok hf.b i hi
  exact ⟨last,M.mono (Nat.le_trans hi hf.n)⟩
 c:=fun m ⟨last,M⟩=>by
  obtain ⟨n,hn,hq⟩:=calm_ends (pick:=pick) 368 m M M.phi
  exact ⟨n,by omega,hq⟩
 aP:=fun A=>A.ms
 eP:=fun A=>by
  obtain ⟨last,M,_⟩:=A.ms
  exact ⟨last,M⟩
 a0:=fun hc=>HA.zero (by
  obtain ⟨last,M⟩:=ms_run (ls:=ls) hr hok hf.b ls.length (Nat.le_refl _)
  rw [List.take_length] at M
  exact ⟨last,M.mono hf.n⟩) hpk hc
 a1:=fun A h _ hB hc=>A.one h hB hc
 a2:=fun A h hj=>A.two h hj
 e0:=fun A=>HE.zero A
 e1:=fun A hi _ hne hc=>A.one hi hne hc
 e2:=fun A hi hj=>A.two hi hj
 e3:=fun A=>A.done
end Go.Proofs.YtpfijldkkfiooaaGreatDoor
