/-
  Part 6 of what the claim stands on: walks through the code, plain laws.
-/
import Derived.Test.YtdiaemlgghfecaaZQueues5
namespace Go.Proofs.Ytdiaemlgghfecaa
open Go.RowKit
theorem stray_11 {d : Ent} {m : Msg} (hk : m.kind = 11) : strayF d m = ((!d.busy || decide (d.waits < 1)) || decide (d.o ≠ m.src)) := by
  unfold strayF; rw [hk]; cases d.busy <;> by_cases h1 : d.waits < 1 <;> by_cases h2 : d.o = m.src <;> simp [h1, h2]
theorem stray_12 {d : Ent} {m : Msg} (hk : m.kind = 12) : strayF d m = ((!d.busy || decide (d.waits < 1)) || ((decide (0 ≤ d.o) || !d.sh.get m.src) || decide (m.src = d.asks))) := by
  unfold strayF; rw [hk]; cases d.busy <;> cases d.sh.get m.src <;> by_cases h1 : d.waits < 1 <;> by_cases h2 : 0 ≤ d.o <;> by_cases h3 : m.src = d.asks <;> simp [h1, h2, h3]
theorem stray_13 {d : Ent} {m : Msg} (hk : m.kind = 13) : strayF d m = (!d.busy || (!d.told || decide (d.asks ≠ m.src))) := by
  unfold strayF; rw [hk]; cases d.busy <;> cases d.told <;> by_cases h3 : d.asks = m.src <;> simp [h3]
set_option maxRecDepth 100000 in
set_option maxHeartbeats 4000000 in
theorem rtake_1 (m : Msg) {w : World} {FpR : Nat → Prop} {A : Option Addr} {cap : Nat} {B : Option Addr} {cb : Nat} {bs : List UInt8} {E : List Ent} {X : List EC} (H : RefAt w FpR A cap B cb ⟨bs, E⟩ X) (hc1 : chk m ≠ 0) : Calls Try.prog 19 #[.agg (#[.slice A bs.length cap, .slice B E.length cb]), .agg (msgE.arr m)] w (Ret fun v w' => v = .tuple #[.agg #[.slice A bs.length cap, .slice B E.length cb], .slice none 0 0, .int .i64 2] ∧ New w w') := by
 have hmn := m.hn
 have hXl : X.length = E.length := H.len
 have mF_FpR : ∀ g, FpR g → FpR g ∨ w.heap.size ≤ g := fun g h => .inl h
 have hF := Only.refl (fun _ => False) w
 refine Zen 197 Try.func19 ?_
 refine Zsr ?_
 refine Znb (cs := #[.slice A bs.length cap, .slice B E.length cb]) fun b1 w2 hN3 B4 hb5 => ?_
 refine Znb (cs := msgE.arr m) fun b6 w7 hN8 B9 hb10 => ?_
 refine Zna (z := zv4) (cs := #[.slice none 0 0, .slice none 0 0]) (by kernel_rfl) fun b11 w12 hN13 B14 hb15 => ?_
 replace hF := (hF.trNew hN3).trNew hN8
 have g_b11 := Nat.le_trans hF.size hb15
 refine Za ?_
 refine Za ?_
 refine Znn ?_
 refine Zsq ?_
 refine Zsr ?_
 replace B9 := B9.new hN13
 refine ZE msgE ag36 (B9.rangeE msgE) ?_
 refine Zk cf39 (refchk_c m _) ?_
 rintro v w16 ⟨rfl, hN17⟩
 refine Zv (.bool true) (fun _ fr => x_neq rfl (fr.ev rfl) rfl (decide_eq_true hc1)) ?_
 refine Zm ?_
 refine Zs ?_
 refine Zs ?_
 refine Zs ?_
 refine Zpt ?_
 refine Znn ?_
 refine Zct ?_
 refine Zsr ?_
 replace B4 := ((B4.new hN8).new hN13).new hN17
 refine Zv _ (fun _ fr => x_loadS ag28 rfl (fr.ev rfl) rfl B4.range) ?_
 replace B14 := B14.new hN17
 refine ZsS sz28 (by simp [Value.oneCell']) B14 rfl rfl (ho := rfl) (hy := rfl) fun w18 hO19 hBq => ?_
 replace B14 := hBq
 clear hBq
 refine Za ?_
 refine Za ?_
 refine Znn ?_
 refine Zrt ?_
 refine Zr1 ?_
 refine Zre rfl [_, _, _] ⟨⟨_, rfl, x_loadV ag28 rfl B14.range⟩, rfl, rfl, trivial⟩ ?_
 replace hF := ((hF.trNew hN13).trNew hN17).loc hO19 (.inr g_b11)
 exact ⟨_, rfl, rfl, hF⟩
set_option maxRecDepth 100000 in
set_option maxHeartbeats 4000000 in
theorem rtake_2 (m : Msg) {w : World} {FpR : Nat → Prop} {A : Option Addr} {cap : Nat} {B : Option Addr} {cb : Nat} {bs : List UInt8} {E : List Ent} {X : List EC} (H : RefAt w FpR A cap B cb ⟨bs, E⟩ X) (hc1 : ¬ chk m ≠ 0) (hc2 : m.dst ≠ 4) : Calls Try.prog 19 #[.agg (#[.slice A bs.length cap, .slice B E.length cb]), .agg (msgE.arr m)] w (Ret fun v w' => v = .tuple #[.agg #[.slice A bs.length cap, .slice B E.length cb], .slice none 0 0, .int .i64 2] ∧ New w w') := by
 have hmn := m.hn
 have hXl : X.length = E.length := H.len
 have mF_FpR : ∀ g, FpR g → FpR g ∨ w.heap.size ≤ g := fun g h => .inl h
 have hF := Only.refl (fun _ => False) w
 refine Zen 197 Try.func19 ?_
 refine Zsr ?_
 refine Znb (cs := #[.slice A bs.length cap, .slice B E.length cb]) fun b1 w2 hN3 B4 hb5 => ?_
 refine Znb (cs := msgE.arr m) fun b6 w7 hN8 B9 hb10 => ?_
 refine Zna (z := zv4) (cs := #[.slice none 0 0, .slice none 0 0]) (by kernel_rfl) fun b11 w12 hN13 B14 hb15 => ?_
 replace hF := (hF.trNew hN3).trNew hN8
 have g_b11 := Nat.le_trans hF.size hb15
 refine Za ?_
 refine Za ?_
 refine Znn ?_
 refine Zsq ?_
 refine Zsr ?_
 replace B9 := B9.new hN13
 refine ZE msgE ag36 (B9.rangeE msgE) ?_
 refine Zk cf39 (refchk_c m _) ?_
 rintro v w16 ⟨rfl, hN17⟩
 refine Zv (.bool false) (fun _ fr => x_neq rfl (fr.ev rfl) rfl (decide_eq_false hc1)) ?_
 refine Zm ?_
 refine Zf fo36_2 ?_
 replace B9 := B9.new hN17
 refine Zd (v := .int .i64 m.dst) pl3 (B9.cell 2 rfl) ?_
 refine Zv (.bool true) (fun _ fr => x_neq rfl (fr.ev rfl) rfl (decide_eq_true hc2)) ?_
 refine Zpf ?_
 refine Znn ?_
 refine Zct ?_
 refine Zsr ?_
 replace B4 := ((B4.new hN8).new hN13).new hN17
 refine Zv _ (fun _ fr => x_loadS ag28 rfl (fr.ev rfl) rfl B4.range) ?_
 replace B14 := B14.new hN17
 refine ZsS sz28 (by simp [Value.oneCell']) B14 rfl rfl (ho := rfl) (hy := rfl) fun w18 hO19 hBq => ?_
 replace B14 := hBq
 clear hBq
 refine Za ?_
 refine Za ?_
 refine Znn ?_
 refine Zrt ?_
 refine Zr1 ?_
 refine Zre rfl [_, _, _] ⟨⟨_, rfl, x_loadV ag28 rfl B14.range⟩, rfl, rfl, trivial⟩ ?_
 replace hF := ((hF.trNew hN13).trNew hN17).loc hO19 (.inr g_b11)
 exact ⟨_, rfl, rfl, hF⟩
set_option maxRecDepth 100000 in
set_option maxHeartbeats 4000000 in
theorem rtake_3 (m : Msg) {w : World} {FpR : Nat → Prop} {A : Option Addr} {cap : Nat} {B : Option Addr} {cb : Nat} {bs : List UInt8} {E : List Ent} {X : List EC} (H : RefAt w FpR A cap B cb ⟨bs, E⟩ X) (hc1 : ¬ chk m ≠ 0) (hc2 : ¬ m.dst ≠ 4) (hc3 : ((E.length : Nat) : Int) ≤ ((m.line.toNat : Nat) : Int)) : Calls Try.prog 19 #[.agg (#[.slice A bs.length cap, .slice B E.length cb]), .agg (msgE.arr m)] w (Ret fun v w' => v = .tuple #[.agg #[.slice A bs.length cap, .slice B E.length cb], .slice none 0 0, .int .i64 4] ∧ New w w') := by
 have hmn := m.hn
 have hXl : X.length = E.length := H.len
 have mF_FpR : ∀ g, FpR g → FpR g ∨ w.heap.size ≤ g := fun g h => .inl h
 have hF := Only.refl (fun _ => False) w
 refine Zen 197 Try.func19 ?_
 refine Zsr ?_
 refine Znb (cs := #[.slice A bs.length cap, .slice B E.length cb]) fun b1 w2 hN3 B4 hb5 => ?_
 refine Znb (cs := msgE.arr m) fun b6 w7 hN8 B9 hb10 => ?_
 refine Zna (z := zv4) (cs := #[.slice none 0 0, .slice none 0 0]) (by kernel_rfl) fun b11 w12 hN13 B14 hb15 => ?_
 replace hF := (hF.trNew hN3).trNew hN8
 have g_b11 := Nat.le_trans hF.size hb15
 refine Za ?_
 refine Za ?_
 refine Znn ?_
 refine Zsq ?_
 refine Zsr ?_
 replace B9 := B9.new hN13
 refine ZE msgE ag36 (B9.rangeE msgE) ?_
 refine Zk cf39 (refchk_c m _) ?_
 rintro v w16 ⟨rfl, hN17⟩
 refine Zv (.bool false) (fun _ fr => x_neq rfl (fr.ev rfl) rfl (decide_eq_false hc1)) ?_
 refine Zm ?_
 refine Zf fo36_2 ?_
 replace B9 := B9.new hN17
 refine Zd (v := .int .i64 m.dst) pl3 (B9.cell 2 rfl) ?_
 refine Zv (.bool false) (fun _ fr => x_neq rfl (fr.ev rfl) rfl (decide_eq_false hc2)) ?_
 refine Zpf ?_
 refine Znn ?_
 refine Zcf ?_
 refine Zsk ?_
 refine Znx ?_
 refine Zsr ?_
 refine Zf fo36_3 ?_
 refine Zd (v := .int .u32 m.line) pl24 (B9.cell 3 rfl) ?_
 refine Za ?_
 refine Znn ?_
 refine Zsq ?_
 refine Zsr ?_
 refine Zm ?_
 refine Zv _ (fun _ fr => x_convert Try.underlying24 Try.underlying2 rfl (fr.ev rfl) (i64w (r := ((m.line.toNat : Nat) : Int)) (by omega) (by omega))) ?_
 refine Zf fo28_1 ?_
 replace B4 := ((B4.new hN8).new hN13).new hN17
 refine Zd (v := .slice B E.length cb) pl26 (B4.cell 1 rfl) ?_
 refine Zv _ (fun _ fr => x_len Try.underlying26 rfl (fr.ev rfl)) ?_
 refine Zv (.bool true) (fun _ fr => x_geq rfl (fr.ev rfl) (fr.ev rfl) (decide_eq_true hc3)) ?_
 refine Znn ?_
 refine Zct ?_
 refine Zsr ?_
 refine Zv _ (fun _ fr => x_loadS ag28 rfl (fr.ev rfl) rfl B4.range) ?_
 replace B14 := B14.new hN17
 refine ZsS sz28 (by simp [Value.oneCell']) B14 rfl rfl (ho := rfl) (hy := rfl) fun w18 hO19 hBq => ?_
 replace B14 := hBq
 clear hBq
 refine Za ?_
 refine Za ?_
 refine Znn ?_
 refine Zrt ?_
 refine Zr1 ?_
 refine Zre rfl [_, _, _] ⟨⟨_, rfl, x_loadV ag28 rfl B14.range⟩, rfl, rfl, trivial⟩ ?_
 replace hF := ((hF.trNew hN13).trNew hN17).loc hO19 (.inr g_b11)
 exact ⟨_, rfl, rfl, hF⟩
set_option maxRecDepth 100000 in
set_option maxHeartbeats 4000000 in
theorem rtake_req (m : Msg) {w : World} {FpR : Nat → Prop} {A : Option Addr} {cap : Nat} {B : Option Addr} {cb : Nat} {bs : List UInt8} {E : List Ent} {X : List EC} (H : RefAt w FpR A cap B cb ⟨bs, E⟩ X) (hk : m.line.toNat < E.length) (hEb : E.length = bs.length / 16) (hb4 : bs.length ≤ 4096) (hsrc : 0 ≤ m.src ∧ m.src < 4) (hc1 : ¬ chk m ≠ 0) (hc2 : ¬ m.dst ≠ 4) (hkd : 1 ≤ m.kind ∧ m.kind ≤ 3) (hq : ∀ x ∈ (entOf E m.line.toNat).q, QOk m.line x) (hql : (entOf E m.line.toNat).q.length ≤ 100000)  : Calls Try.prog 19 #[.agg (#[.slice A bs.length cap, .slice B E.length cb]), .agg (msgE.arr m)] w (Ret fun v w' => ∃ A' c' B' cb' F' M mc, v = .tuple #[.agg #[.slice A' (if (entOf E m.line.toNat).busy = true then (({ (entOf E m.line.toNat) with q := (entOf E m.line.toNat).q ++ [m] }, bs, ([] : List Msg)) : Ent × List UInt8 × List Msg) else beginF bs (entOf E m.line.toNat) m).2.1.length c', .slice B' (E.set m.line.toNat (if (entOf E m.line.toNat).busy = true then (({ (entOf E m.line.toNat) with q := (entOf E m.line.toNat).q ++ [m] }, bs, ([] : List Msg)) : Ent × List UInt8 × List Msg) else beginF bs (entOf E m.line.toNat) m).1).length cb'], .slice M (if (entOf E m.line.toNat).busy = true then (({ (entOf E m.line.toNat) with q := (entOf E m.line.toNat).q ++ [m] }, bs, ([] : List Msg)) : Ent × List UInt8 × List Msg) else beginF bs (entOf E m.line.toNat) m).2.2.length mc, .int .i64 0] ∧ RefH w' F' A' c' B' cb' ⟨(if (entOf E m.line.toNat).busy = true then (({ (entOf E m.line.toNat) with q := (entOf E m.line.toNat).q ++ [m] }, bs, ([] : List Msg)) : Ent × List UInt8 × List Msg) else beginF bs (entOf E m.line.toNat) m).2.1, E.set m.line.toNat (if (entOf E m.line.toNat).busy = true then (({ (entOf E m.line.toNat) with q := (entOf E m.line.toNat).q ++ [m] }, bs, ([] : List Msg)) : Ent × List UInt8 × List Msg) else beginF bs (entOf E m.line.toNat) m).1⟩ ∧ Own msgE w' M mc (if (entOf E m.line.toNat).busy = true then (({ (entOf E m.line.toNat) with q := (entOf E m.line.toNat).q ++ [m] }, bs, ([] : List Msg)) : Ent × List UInt8 × List Msg) else beginF bs (entOf E m.line.toNat) m).2.2 ∧ (∀ g, F' g → FpR g ∨ w.heap.size ≤ g) ∧ (∀ g, inA M g → w.heap.size ≤ g) ∧ (∀ g, F' g → inA M g → False) ∧ New w w') := by
 have hmn := m.hn
 have hXl : X.length = E.length := H.len
 have mF_FpR : ∀ g, FpR g → FpR g ∨ w.heap.size ≤ g := fun g h => .inl h
 have hc3 : ¬ ((E.length : Nat) : Int) ≤ ((m.line.toNat : Nat) : Int) := by omega
 have hkd2 := hkd.2
 have hF := Only.refl (fun _ => False) w
 refine fx_enter Try.func19 rfl (N := (197, [])) (T := [(0, .agg (#[.slice A bs.length cap, .slice B E.length cb])), (1, .agg (msgE.arr m))]) rfl (show 2 ≤ 197 by decide) ⟨rfl, rfl, trivial⟩ fun a fr => ?_
 refine wp_seq ?_
 refine wp_region_lit ?_
 refine fx_new fr rfl rfl (by decide) (x_box (cs := #[.slice A bs.length cap, .slice B E.length cb]) rfl (fr.ev rfl) rfl) ?_
 clear fr a
 intro b1 w2 hN3 B4 hb5 a fr
 have ap_FpR_b1 : ¬ FpR b1 := H.apart hb5
 have g_b1 := Nat.le_trans hF.size hb5
 replace H := H.new hN3
 replace hF := hF.trNew hN3
 refine fx_new fr rfl rfl (by decide) (x_box (cs := msgE.arr m) rfl (fr.ev rfl) rfl) ?_
 clear fr a
 intro b6 w7 hN8 B9 hb10 a fr
 have ap_FpR_b6 : ¬ FpR b6 := H.apart hb10
 have ne_b1_b6 : NE b1 b6 := NE.mk (Nat.lt_of_lt_of_le B4.lt hb10)
 have g_b6 := Nat.le_trans hF.size hb10
 replace H := H.new hN8
 replace B4 := B4.new hN8
 replace hF := hF.trNew hN8
 refine fx_new fr rfl rfl (by decide) (x_alloc (z := .agg (#[.slice none 0 0, .slice none 0 0])) (cs := #[.slice none 0 0, .slice none 0 0]) rfl (by kernel_rfl) rfl) ?_
 clear fr a
 intro b11 w12 hN13 B14 hb15 a fr
 have ap_FpR_b11 : ¬ FpR b11 := H.apart hb15
 have ne_b1_b11 : NE b1 b11 := NE.mk (Nat.lt_of_lt_of_le B4.lt hb15)
 have ne_b6_b11 : NE b6 b11 := NE.mk (Nat.lt_of_lt_of_le B9.lt hb15)
 have g_b11 := Nat.le_trans hF.size hb15
 replace H := H.new hN13
 replace B4 := B4.new hN13
 replace B9 := B9.new hN13
 replace hF := hF.trNew hN13
 refine fx_val (v := .slice none 0 0) fr rfl rfl (by decide) (x_assign rfl rfl) ?_
 clear fr a; intro a fr
 refine fx_val (v := .int .i64 0) fr rfl rfl (by decide) (x_assign rfl rfl) ?_
 clear fr a; intro a fr
 refine wpList_nil ?_
 refine fx_next ?_
 refine wp_seq ?_
 refine wp_seq ?_
 refine wp_region_lit ?_
 refine fx_val (v := .agg (msgE.arr m)) fr rfl rfl (by decide) (x_loadE (E := msgE) ag36 rfl rfl (fr.ev rfl) (B9.rangeE msgE)) ?_
 clear fr a; intro a fr
 refine fx_call fr rfl rfl (by decide) (x_call (vs := [.agg (msgE.arr m)]) rfl rfl ⟨(fr.ev rfl), trivial⟩ Try.func39 nm39 rfl) (refchk_c m _) ?_
 clear fr a
 rintro v w16 ⟨rfl, hN17⟩ a fr
 replace H := H.new hN17
 replace B4 := B4.new hN17
 replace B9 := B9.new hN17
 replace B14 := B14.new hN17
 replace hF := hF.trNew hN17
 refine fx_val (v := .bool false) fr rfl rfl (by decide) (x_neq rfl (fr.ev rfl) rfl (decide_eq_false hc1)) ?_
 clear fr a; intro a fr
 refine fx_val (v := .bool false) fr rfl rfl (by decide) (x_move rfl (fr.ev rfl)) ?_
 clear fr a; intro a fr
 refine fx_val (v := .pointer (some ⟨b6, 2, none⟩)) fr (fr.want rfl rfl rfl) rfl (by decide) (x_fieldAddr fo36_2 rfl (fr.ev rfl) rfl) ?_
 clear fr a; intro a fr
 refine fx_val (v := .int .i64 m.dst) fr (fr.want rfl rfl rfl) rfl (by decide) (x_load1 pl3 rfl (fr.ev rfl) (B9.cell 2 rfl)) ?_
 clear fr a; intro a fr
 refine fx_val (v := .bool false) fr (fr.want rfl rfl rfl) rfl (by decide) (x_neq rfl (fr.ev rfl) rfl (decide_eq_false hc2)) ?_
 clear fr a; intro a fr
 refine fx_val (v := .bool false) fr rfl rfl (by decide) (x_pick_f rfl (fr.ev rfl) (fr.ev rfl)) ?_
 clear fr a; intro a fr
 refine wpList_nil ?_
 refine fx_next ?_
 refine fx_cond_f fr rfl ?_
 refine wp_skip ?_
 refine fx_next ?_
 refine wp_seq ?_
 refine wp_region_lit ?_
 refine fx_val (v := .pointer (some ⟨b6, 3, none⟩)) fr rfl rfl (by decide) (x_fieldAddr fo36_3 rfl (fr.ev rfl) rfl) ?_
 clear fr a; intro a fr
 refine fx_val (v := .int .u32 m.line) fr rfl rfl (by decide) (x_load1 pl24 rfl (fr.ev rfl) (B9.cell 3 rfl)) ?_
 clear fr a; intro a fr
 refine fx_val (v := .int .u32 m.line) fr rfl rfl (by decide) (x_assign rfl (fr.ev rfl)) ?_
 clear fr a; intro a fr
 refine wpList_nil ?_
 refine fx_next ?_
 refine wp_seq ?_
 refine wp_seq ?_
 refine wp_region_lit ?_
 refine fx_val (v := .int .u32 m.line) fr rfl rfl (by decide) (x_move rfl (fr.ev rfl)) ?_
 clear fr a; intro a fr
 refine fx_val (v := .int .i64 ((m.line.toNat : Nat) : Int)) fr rfl rfl (by decide) (x_convert Try.underlying24 Try.underlying2 rfl (fr.ev rfl) (i64w (r := ((m.line.toNat : Nat) : Int)) (by omega) (by omega))) ?_
 clear fr a; intro a fr
 refine fx_val (v := .pointer (some ⟨b1, 1, none⟩)) fr rfl rfl (by decide) (x_fieldAddr fo28_1 rfl (fr.ev rfl) rfl) ?_
 clear fr a; intro a fr
 refine fx_val (v := .slice B E.length cb) fr rfl rfl (by decide) (x_load1 pl26 rfl (fr.ev rfl) (B4.cell 1 rfl)) ?_
 clear fr a; intro a fr
 refine fx_val (v := .int .i64 ((E.length : Nat) : Int)) fr rfl rfl (by decide) (x_len Try.underlying26 rfl (fr.ev rfl)) ?_
 clear fr a; intro a fr
 refine fx_val (v := .bool false) fr rfl rfl (by decide) (x_geq rfl (fr.ev rfl) (fr.ev rfl) (decide_eq_false hc3)) ?_
 clear fr a; intro a fr
 refine wpList_nil ?_
 refine fx_next ?_
 refine fx_cond_f fr rfl ?_
 refine wp_skip ?_
 refine fx_next ?_
 refine wp_seq ?_
 refine wp_region_lit ?_
 refine fx_val (v := .pointer (some ⟨b1, 1, none⟩)) fr rfl rfl (by decide) (x_fieldAddr fo28_1 rfl (fr.ev rfl) rfl) ?_
 clear fr a; intro a fr
 refine fx_val (v := .slice B E.length cb) fr rfl rfl (by decide) (x_load1 pl26 rfl (fr.ev rfl) (B4.cell 1 rfl)) ?_
 clear fr a; intro a fr
 refine fx_val (v := .int .u32 m.line) fr rfl rfl (by decide) (x_move rfl (fr.ev rfl)) ?_
 clear fr a; intro a fr
 refine fx_val (v := .int .i64 ((m.line.toNat : Nat) : Int)) fr rfl rfl (by decide) (x_convert Try.underlying24 Try.underlying3 rfl (fr.ev rfl) (i64w (r := ((m.line.toNat : Nat) : Int)) (by omega) (by omega))) ?_
 clear fr a; intro a fr
 obtain ⟨g18, o19, hA20⟩ := (H.ve).some_ (by first | omega | decide)
 refine fx_val (v := .pointer (some ⟨g18, o19 + m.line.toNat * 11, none⟩)) fr rfl rfl (by decide) (x_indexV Try.underlying26 sz42 rfl (fr.ev rfl) hA20 (fr.ev rfl) (by first | omega | decide) rfl) ?_
 clear fr a; intro a fr
 obtain ⟨Q21, qc22, hat23, hQ24, hQF25⟩ := H.at_ m.line.toNat (by omega)
 dsimp only at hat23 hQ24
 have mQ_Q21 := fun g (hg : inA Q21 g) => mF_FpR g (hQF25 g hg)
 have ap_Q21_b1 : Apart Q21 b1 := fun h => ap_FpR_b1 (hQF25 _ h)
 have ap_Q21_b6 : Apart Q21 b6 := fun h => ap_FpR_b6 (hQF25 _ h)
 have ap_Q21_b11 : Apart Q21 b11 := fun h => ap_FpR_b11 (hQF25 _ h)
 refine fx_val (v := .agg (entA (entOf E m.line.toNat) (.slice Q21 ((entOf E m.line.toNat).q.length) qc22))) fr rfl rfl (by decide) (x_loadE (E := ecE) (p := ecOf (entOf E m.line.toNat) Q21 qc22) ag42 rfl rfl (fr.ev rfl) (H.cell hat23 (by omega) hA20)) ?_
 clear fr a; intro a fr
 refine fx_new fr rfl rfl (by decide) (x_alloc (z := .agg (#[.int .i64 0, .bool false, .bool false, .bool false, .bool false, .bool false, .int .i64 0, .int .i64 0, .int .i64 0, .bool false, .slice none 0 0])) (cs := #[.int .i64 0, .bool false, .bool false, .bool false, .bool false, .bool false, .int .i64 0, .int .i64 0, .int .i64 0, .bool false, .slice none 0 0]) rfl (by kernel_rfl) rfl) ?_
 clear fr a
 intro b26 w27 hN28 B29 hb30 a fr
 have ap_FpR_b26 : ¬ FpR b26 := H.apart hb30
 have ne_b1_b26 : NE b1 b26 := NE.mk (Nat.lt_of_lt_of_le B4.lt hb30)
 have ne_b6_b26 : NE b6 b26 := NE.mk (Nat.lt_of_lt_of_le B9.lt hb30)
 have ne_b11_b26 : NE b11 b26 := NE.mk (Nat.lt_of_lt_of_le B14.lt hb30)
 have ap_Q21_b26 : Apart Q21 b26 := hQ24.apart hb30
 have g_b26 := Nat.le_trans hF.size hb30
 replace H := H.new hN28
 replace B4 := B4.new hN28
 replace B9 := B9.new hN28
 replace B14 := B14.new hN28
 replace hQ24 := hQ24.new hN28
 replace hF := hF.trNew hN28
 refine fx_storeS sz42 rfl rfl rfl (fr.ev rfl) (fr.ev rfl) (ent_all _ _ _ _) B29 rfl rfl fun w31 hO32 hBq => ?_
 replace H := H.only hO32 (ne1P ap_FpR_b26)
 replace B4 := B4.only hO32 (by first | exact ne_b1_b26 | exact ne_b26_b1.symm | (show ¬ b1 = b26; omega))
 replace B9 := B9.only hO32 (by first | exact ne_b6_b26 | exact ne_b26_b6.symm | (show ¬ b6 = b26; omega))
 replace B14 := B14.only hO32 (by first | exact ne_b11_b26 | exact ne_b26_b11.symm | (show ¬ b11 = b26; omega))
 replace hQ24 := hQ24.only hO32 (Apart.ne1 ap_Q21_b26)
 replace hF := hF.loc hO32 (.inr g_b26)
 replace B29 := hBq
 clear hBq
 refine wpList_nil ?_
 refine fx_next ?_
 refine wp_seq ?_
 refine wp_region_lit ?_
 refine fx_val (v := .pointer (some ⟨b6, 0, none⟩)) fr rfl rfl (by decide) (x_fieldAddr fo36_0 rfl (fr.ev rfl) rfl) ?_
 clear fr a; intro a fr
 refine fx_val (v := .int .i64 m.kind) fr rfl rfl (by decide) (x_load1 pl33 rfl (fr.ev rfl) (B9.cell 0 rfl)) ?_
 clear fr a; intro a fr
 refine fx_val (v := .int .i64 m.kind) fr rfl rfl (by decide) (x_assign rfl (fr.ev rfl)) ?_
 clear fr a; intro a fr
 refine wpList_nil ?_
 refine fx_next ?_
 refine wp_seq ?_
 refine wp_seq ?_
 refine wp_region_lit ?_
 refine fx_val (v := .int .i64 m.kind) fr rfl rfl (by decide) (x_move rfl (fr.ev rfl)) ?_
 clear fr a; intro a fr
 refine fx_val (v := .bool true) fr rfl rfl (by decide) (x_leq rfl (fr.ev rfl) rfl (decide_eq_true hkd2)) ?_
 clear fr a; intro a fr
 refine wpList_nil ?_
 refine fx_next ?_
 refine fx_cond_t fr rfl ?_
 refine wp_seq ?_
 refine wp_seq ?_
 refine wp_region_lit ?_
 refine fx_val (v := .pointer (some ⟨b26, 5, none⟩)) fr rfl rfl (by decide) (x_fieldAddr fo42_2 rfl (fr.ev rfl) rfl) ?_
 clear fr a; intro a fr
 refine fx_val (v := .bool ((entOf E m.line.toNat).busy)) fr rfl rfl (by decide) (x_load1 pl4 rfl (fr.ev rfl) (B29.cell 5 rfl)) ?_
 clear fr a; intro a fr
 refine wpList_nil ?_
 refine fx_next ?_
 refine fx_cond fr rfl (fun hc33 => ?_) (fun hc33 => ?_)
 ·skip
  refine wp_seq ?_
  refine fx_heldT (n := 6) (k := 6) (fun w => RefAt w FpR A cap B cb (HD.mk bs E) X ∧ Blk w b1 28 (#[.slice A bs.length cap, .slice B E.length cb]) ∧ Blk w b6 36 (msgE.arr m) ∧ Blk w b11 28 (#[.slice none 0 0, .slice none 0 0]) ∧ View msgE w Q21 qc22 ((entOf E m.line.toNat).q) ∧ Blk w b26 42 (entA (entOf E m.line.toNat) (.slice Q21 ((entOf E m.line.toNat).q.length) qc22)) ∧ True) (by kernel_rfl) (by kernel_rfl) rfl ?_
  intro w34 hN35
  replace H := H.new hN35
  replace B4 := B4.new hN35
  replace B9 := B9.new hN35
  replace B14 := B14.new hN35
  replace hQ24 := hQ24.new hN35
  replace B29 := B29.new hN35
  replace hF := hF.trNew hN35
  refine fx_take (i := 0) (v := .pointer (some ⟨b26, 10, none⟩)) fr rfl (by kernel_rfl) rfl rfl (by decide) (fun _ _ _ h => h) (fun _ ⟨H, B4, B9, B14, hQ24, B29, _⟩ => x_fieldAddr fo42_7 rfl (fr.ev rfl) rfl) ⟨H, B4, B9, B14, hQ24, B29, trivial⟩ ?_
  clear fr a; intro a fr
  refine fx_take (i := 1) (v := .slice Q21 ((entOf E m.line.toNat).q.length) qc22) fr rfl (by kernel_rfl) rfl rfl (by decide) (fun _ _ _ h => h) (fun _ ⟨H, B4, B9, B14, hQ24, B29, _⟩ => x_load1 pl23 rfl (fr.ev rfl) (B29.cell 10 rfl)) ⟨H, B4, B9, B14, hQ24, B29, trivial⟩ ?_
  clear fr a; intro a fr
  refine fx_take (i := 3) (v := .agg (msgE.arr m)) fr rfl (by kernel_rfl) rfl rfl (by decide) (fun _ _ _ h => h) (fun _ ⟨H, B4, B9, B14, hQ24, B29, _⟩ => x_loadE (E := msgE) ag36 rfl rfl (fr.ev rfl) (B9.rangeE msgE)) ⟨H, B4, B9, B14, hQ24, B29, trivial⟩ ?_
  clear fr a; intro a fr
  refine fx_two (i := 2) (j := 4) (by kernel_rfl) (fx_op rfl ?_) (fx_op rfl ?_)
  ·skip
   refine fx_append (E := msgE) (l := []) (l' := (entOf E m.line.toNat).q) elMsg fr rfl rfl (by decide) rfl rfl (fr.ev rfl) (by first | rfl | (simp; done) | (simp; omega)) (by first | rfl | (simp; done) | (simp; omega)) Own.nil hQ24 (by first | omega | (simp only [List.length_append, List.length_cons, List.length_nil, List.length_drop, List.length_map]; omega) | (simp; omega)) (by first | (unfold maxLen; done) | (unfold maxLen; first | omega | (simp only [List.length_append, List.length_cons, List.length_nil]; omega) | (simp; done) | (simp; omega))) ?_
   clear fr a
   intro A36 cap37 w38 O39 hO40 mv41 a fr
   have ap2_A36_FpR : ∀ k, inA A36 k → FpR k → False := moved_apart2P mv41 (fun k h _ => apart_none k h) fun _ hg => H.lt hg
   have ap_A36_b1 : Apart A36 b1 := moved_apart mv41 (apart_none b1) B4.lt
   have ap_A36_b6 : Apart A36 b6 := moved_apart mv41 (apart_none b6) B9.lt
   have ap_A36_b11 : Apart A36 b11 := moved_apart mv41 (apart_none b11) B14.lt
   have ap2_A36_Q21 : Apart2 A36 Q21 := moved_apart2 mv41 (fun k h _ => apart_none k h) fun _ hg => hQ24.lt hg
   have ap_A36_b26 : Apart A36 b26 := moved_apart mv41 (apart_none b26) B29.lt
   have gA_A36 := gA_moved hF mv41 gA_none
   have gN_A36 := fun g (hg : inA A36 g) => (mv41 g hg).elim (fun h => absurd h (apart_none g)) (fun h => Nat.le_trans hF.size h)
   replace hO40 := only_none hO40
   replace H := H.new hO40
   replace B4 := B4.new hO40
   replace B9 := B9.new hO40
   replace B14 := B14.new hO40
   replace hQ24 := hQ24.new hO40
   replace B29 := B29.new hO40
   replace hF := hF.trNew hO40
   simp only [List.nil_append] at fr O39
   refine wpList_nil ?_
   refine ⟨⟨H, B4, B9, B14, hQ24, B29, trivial⟩, ?_⟩
   refine fx_one (i := 4) (by kernel_rfl) (fx_op rfl ?_)
   refine fx_build1 (E := msgE) (p := m) elMsg (by decide) fr rfl rfl (by decide) rfl (fr.ev rfl) ?_
   clear fr a
   intro A42 w43 hN44 O45 hA46 a fr
   have ap2_FpR_A42 : ∀ k, FpR k → inA A42 k → False := symP (new_apart2P hA46 fun _ hg => H.lt hg)
   have ap_A42_b1 : Apart A42 b1 := new_apart hA46 B4.lt
   have ap_A42_b6 : Apart A42 b6 := new_apart hA46 B9.lt
   have ap_A42_b11 : Apart A42 b11 := new_apart hA46 B14.lt
   have ap2_Q21_A42 : Apart2 Q21 A42 := (new_apart2 hA46 fun _ hg => hQ24.lt hg).symm
   have ap_A42_b26 : Apart A42 b26 := new_apart hA46 B29.lt
   have ap2_A36_A42 : Apart2 A36 A42 := (new_apart2 hA46 fun _ hg => O39.lt hg).symm
   have gA_A42 := gA_new hF hA46
   have gN_A42 := fun g (hg : inA A42 g) => Nat.le_trans hF.size (hA46 g hg)
   replace H := H.new hN44
   replace B4 := B4.new hN44
   replace B9 := B9.new hN44
   replace B14 := B14.new hN44
   replace hQ24 := hQ24.new hN44
   replace B29 := B29.new hN44
   replace O39 := O39.new hN44
   replace hF := hF.trNew hN44
   refine wpList_nil ?_
   refine ⟨⟨H, B4, B9, B14, hQ24, B29, trivial⟩, ?_⟩
   refine fx_one (i := 5) (by kernel_rfl) (fx_op rfl ?_)
   refine fx_append (E := msgE) (l := (entOf E m.line.toNat).q) (l' := [m]) elMsg fr rfl rfl (by decide) rfl (fr.ev rfl) (fr.ev rfl) (by first | rfl | (simp; done) | (simp; omega)) (by first | rfl | (simp; done) | (simp; omega)) O39 O45.view (by first | omega | (simp only [List.length_append, List.length_cons, List.length_nil, List.length_drop, List.length_map]; omega) | (simp; omega)) (by first | (unfold maxLen; done) | (unfold maxLen; first | omega | (simp only [List.length_append, List.length_cons, List.length_nil]; omega) | (simp; done) | (simp; omega))) ?_
   clear fr a
   intro A47 cap48 w49 O50 hO51 mv52 a fr
   have ap2_A47_FpR : ∀ k, inA A47 k → FpR k → False := moved_apart2P mv52 ap2_A36_FpR fun _ hg => H.lt hg
   have ap_A47_b1 : Apart A47 b1 := moved_apart mv52 ap_A36_b1 B4.lt
   have ap_A47_b6 : Apart A47 b6 := moved_apart mv52 ap_A36_b6 B9.lt
   have ap_A47_b11 : Apart A47 b11 := moved_apart mv52 ap_A36_b11 B14.lt
   have ap2_A47_Q21 : Apart2 A47 Q21 := moved_apart2 mv52 ap2_A36_Q21 fun _ hg => hQ24.lt hg
   have ap_A47_b26 : Apart A47 b26 := moved_apart mv52 ap_A36_b26 B29.lt
   have ap2_A47_A42 : Apart2 A47 A42 := moved_apart2 mv52 ap2_A36_A42 fun _ hg => O45.lt hg
   have gA_A47 := gA_moved hF mv52 gA_A36
   have gN_A47 := fun g (hg : inA A47 g) => (mv52 g hg).elim (gN_A36 g) (fun h => Nat.le_trans hF.size h)
   replace H := H.only hO51 (fun g h1 h2 => (symP ap2_A36_FpR) g h1 h2)
   replace B4 := B4.only hO51 ap_A36_b1
   replace B9 := B9.only hO51 ap_A36_b6
   replace B14 := B14.only hO51 ap_A36_b11
   replace hQ24 := hQ24.only hO51 (fun g h1 h2 => ap2_A36_Q21.symm g h1 h2)
   replace B29 := B29.only hO51 ap_A36_b26
   replace O45 := O45.only hO51 (fun g h1 h2 => ap2_A36_A42.symm g h1 h2)
   replace hF := hF.locA hO51 gA_A36
   clear O39
   refine wpList_nil ?_
   refine ⟨⟨H, B4, B9, B14, hQ24, B29, trivial⟩, ?_⟩
   refine fx_hdone (by kernel_rfl) ?_
   refine fx_tail ?_
   refine fx_val (v := .pointer (some ⟨b26, 10, none⟩)) fr rfl rfl (by decide) (x_fieldAddr fo42_7 rfl (fr.ev rfl) rfl) ?_
   clear fr a; intro a fr
   refine fx_store1 sz23 rfl rfl rfl (fr.ev rfl) (fr.ev rfl) rfl B29 (show 10 < 11 by decide) (cs' := entA (Ent.mk ((entOf E m.line.toNat).o) ((entOf E m.line.toNat).sh) ((entOf E m.line.toNat).busy) ((entOf E m.line.toNat).asks) ((entOf E m.line.toNat).kind) ((entOf E m.line.toNat).waits) ((entOf E m.line.toNat).told) (((entOf E m.line.toNat).q) ++ ([m]))) (.slice A47 ((((entOf E m.line.toNat).q) ++ ([m])).length) cap48)) rfl fun w53 hO54 hBq => ?_
   replace H := H.only hO54 (ne1P ap_FpR_b26)
   replace B4 := B4.only hO54 (by first | exact ne_b1_b26 | exact ne_b26_b1.symm | (show ¬ b1 = b26; omega))
   replace B9 := B9.only hO54 (by first | exact ne_b6_b26 | exact ne_b26_b6.symm | (show ¬ b6 = b26; omega))
   replace B14 := B14.only hO54 (by first | exact ne_b11_b26 | exact ne_b26_b11.symm | (show ¬ b11 = b26; omega))
   replace hQ24 := hQ24.only hO54 (Apart.ne1 ap_Q21_b26)
   replace O45 := O45.only hO54 (Apart.ne1 ap_A42_b26)
   replace O50 := O50.only hO54 (Apart.ne1 ap_A47_b26)
   replace hF := hF.loc hO54 (.inr g_b26)
   replace B29 := hBq
   clear hBq
   refine wpList_nil ?_
   refine fx_next ?_
   refine wp_seq ?_
   refine wp_region_lit ?_
   refine fx_val (v := .agg (#[.slice A bs.length cap, .slice B E.length cb])) fr rfl rfl (by decide) (x_loadS ag28 rfl (fr.ev rfl) rfl B4.range) ?_
   clear fr a; intro a fr
   refine fx_val (v := .int .u32 m.line) fr rfl rfl (by decide) (x_move rfl (fr.ev rfl)) ?_
   clear fr a; intro a fr
   refine fx_val (v := .agg (entA (Ent.mk ((entOf E m.line.toNat).o) ((entOf E m.line.toNat).sh) ((entOf E m.line.toNat).busy) ((entOf E m.line.toNat).asks) ((entOf E m.line.toNat).kind) ((entOf E m.line.toNat).waits) ((entOf E m.line.toNat).told) (((entOf E m.line.toNat).q) ++ ([m]))) (.slice A47 ((((entOf E m.line.toNat).q) ++ ([m])).length) cap48))) fr rfl rfl (by decide) (x_loadS ag42 rfl (fr.ev rfl) rfl B29.range) ?_
   clear fr a; intro a fr
   refine fx_call fr rfl rfl (by decide) (x_call (vs := [.agg (#[.slice A bs.length cap, .slice B E.length cb]), .int .u32 m.line, .agg (entA (Ent.mk ((entOf E m.line.toNat).o) ((entOf E m.line.toNat).sh) ((entOf E m.line.toNat).busy) ((entOf E m.line.toNat).asks) ((entOf E m.line.toNat).kind) ((entOf E m.line.toNat).waits) ((entOf E m.line.toNat).told) (((entOf E m.line.toNat).q) ++ ([m]))) (.slice A47 ((((entOf E m.line.toNat).q) ++ ([m])).length) cap48))]) rfl rfl ⟨(fr.ev rfl), (fr.ev rfl), (fr.ev rfl), trivial⟩ Try.func40 nm40 rfl) (rwith_r m.line m.hn (Ent.mk ((entOf E m.line.toNat).o) ((entOf E m.line.toNat).sh) ((entOf E m.line.toNat).busy) ((entOf E m.line.toNat).asks) ((entOf E m.line.toNat).kind) ((entOf E m.line.toNat).waits) ((entOf E m.line.toNat).told) (((entOf E m.line.toNat).q) ++ ([m]))) A47 cap48 H (by omega) (by omega) O50.view) ?_
   clear fr a
   rintro v w60 ⟨B55, cb56, FpR57, rfl, H58, mv59, hN61⟩ a fr
   have mQ_A47 : ∀ g, inA A47 g → FpR g ∨ w.heap.size ≤ g := fun g hg => .inr (gN_A47 g hg)
   have ap_FpR57_b1 : ¬ FpR57 b1 := moved_apartP mv59 (fun h => h.elim ap_FpR_b1 ap_A47_b1) B4.lt
   have ap_FpR57_b6 : ¬ FpR57 b6 := moved_apartP mv59 (fun h => h.elim ap_FpR_b6 ap_A47_b6) B9.lt
   have ap_FpR57_b11 : ¬ FpR57 b11 := moved_apartP mv59 (fun h => h.elim ap_FpR_b11 ap_A47_b11) B14.lt
   have ap2_FpR57_A42 : ∀ k, FpR57 k → inA A42 k → False := moved_apart2P mv59 (fun k hk => (fun h => h.elim (ap2_FpR_A42 k) (ap2_A47_A42 k)) hk) fun _ hg => O45.lt hg
   have ap_FpR57_b26 : ¬ FpR57 b26 := moved_apartP mv59 (fun h => h.elim ap_FpR_b26 ap_A47_b26) B29.lt
   have mF_FpR57 : ∀ g, FpR57 g → FpR g ∨ w.heap.size ≤ g := fun g hg => (mv59 g hg).elim (fun h => h.elim (mF_FpR g) (mQ_A47 g)) (fun h => .inr (Nat.le_trans hF.size h))
   replace H := H.new hN61
   replace B4 := B4.new hN61
   replace B9 := B9.new hN61
   replace B14 := B14.new hN61
   replace hQ24 := hQ24.new hN61
   replace O45 := O45.new hN61
   replace O50 := O50.new hN61
   replace B29 := B29.new hN61
   replace hF := hF.trNew hN61
   have hel62 : (E.set m.line.toNat (Ent.mk ((entOf E m.line.toNat).o) ((entOf E m.line.toNat).sh) ((entOf E m.line.toNat).busy) ((entOf E m.line.toNat).asks) ((entOf E m.line.toNat).kind) ((entOf E m.line.toNat).waits) ((entOf E m.line.toNat).told) (((entOf E m.line.toNat).q) ++ ([m])))).length = E.length := List.length_set
   have hxl63 := H58.len
   simp only [List.length_set] at hxl63
   refine fx_storeS sz28 rfl rfl rfl (fr.ev rfl) (fr.ev rfl) (by simp [Value.oneCell']) B14 rfl rfl fun w64 hO65 hBq => ?_
   replace H := H.only hO65 (ne1P ap_FpR_b11)
   replace B4 := B4.only hO65 (by first | exact ne_b1_b11 | exact ne_b11_b1.symm | (show ¬ b1 = b11; omega))
   replace B9 := B9.only hO65 (by first | exact ne_b6_b11 | exact ne_b11_b6.symm | (show ¬ b6 = b11; omega))
   replace hQ24 := hQ24.only hO65 (Apart.ne1 ap_Q21_b11)
   replace O45 := O45.only hO65 (Apart.ne1 ap_A42_b11)
   replace O50 := O50.only hO65 (Apart.ne1 ap_A47_b11)
   replace B29 := B29.only hO65 (by first | exact ne_b26_b11 | exact ne_b11_b26.symm | (show ¬ b26 = b11; omega))
   replace H58 := H58.only hO65 (ne1P ap_FpR57_b11)
   replace hF := hF.loc hO65 (.inr g_b11)
   replace B14 := hBq
   clear hBq
   refine fx_val (v := .slice none 0 0) fr rfl rfl (by decide) (x_assign rfl rfl) ?_
   clear fr a; intro a fr
   refine fx_val (v := .int .i64 0) fr rfl rfl (by decide) (x_assign rfl rfl) ?_
   clear fr a; intro a fr
   refine wpList_nil ?_
   refine fx_next ?_
   refine wp_ret ?_
   refine fx_rt ?_
   refine fx_rt ?_
   refine fx_ret fr [.cell 4 28, .tmp 5, .tmp 6] [.agg (#[.slice A bs.length cap, .slice B55 ((E.set m.line.toNat (Ent.mk ((entOf E m.line.toNat).o) ((entOf E m.line.toNat).sh) ((entOf E m.line.toNat).busy) ((entOf E m.line.toNat).asks) ((entOf E m.line.toNat).kind) ((entOf E m.line.toNat).waits) ((entOf E m.line.toNat).told) (((entOf E m.line.toNat).q) ++ ([m])))).length) cb56]), .slice none 0 0, .int .i64 0] rfl ⟨⟨_, rfl, x_loadV ag28 rfl B14.range⟩, rfl, rfl, trivial⟩ rfl ?_
   rw [if_pos hc33]
   exact ⟨_, rfl, A, cap, B55, cb56, FpR57, none, 0, rfl, ⟨_, H58⟩, Own.nil, mF_FpR57, fun g hg => absurd hg (apart_none g), fun g _ hg => apart_none g hg, hF⟩
  ·skip
   refine fx_build1 (E := msgE) (p := m) elMsg (by decide) fr rfl rfl (by decide) rfl (fr.ev rfl) ?_
   clear fr a
   intro A66 w67 hN68 O69 hA70 a fr
   have ap2_FpR_A66 : ∀ k, FpR k → inA A66 k → False := symP (new_apart2P hA70 fun _ hg => H.lt hg)
   have ap_A66_b1 : Apart A66 b1 := new_apart hA70 B4.lt
   have ap_A66_b6 : Apart A66 b6 := new_apart hA70 B9.lt
   have ap_A66_b11 : Apart A66 b11 := new_apart hA70 B14.lt
   have ap2_Q21_A66 : Apart2 Q21 A66 := (new_apart2 hA70 fun _ hg => hQ24.lt hg).symm
   have ap_A66_b26 : Apart A66 b26 := new_apart hA70 B29.lt
   have gA_A66 := gA_new hF hA70
   have gN_A66 := fun g (hg : inA A66 g) => Nat.le_trans hF.size (hA70 g hg)
   replace H := H.new hN68
   replace B4 := B4.new hN68
   replace B9 := B9.new hN68
   replace B14 := B14.new hN68
   replace hQ24 := hQ24.new hN68
   replace B29 := B29.new hN68
   replace hF := hF.trNew hN68
   refine wpList_nil ?_
   refine ⟨⟨H, B4, B9, B14, hQ24, B29, trivial⟩, ?_⟩
   refine fx_one (i := 2) (by kernel_rfl) (fx_op rfl ?_)
   refine fx_append (E := msgE) (l := []) (l' := (entOf E m.line.toNat).q) elMsg fr rfl rfl (by decide) rfl rfl (fr.ev rfl) (by first | rfl | (simp; done) | (simp; omega)) (by first | rfl | (simp; done) | (simp; omega)) Own.nil hQ24 (by first | omega | (simp only [List.length_append, List.length_cons, List.length_nil, List.length_drop, List.length_map]; omega) | (simp; omega)) (by first | (unfold maxLen; done) | (unfold maxLen; first | omega | (simp only [List.length_append, List.length_cons, List.length_nil]; omega) | (simp; done) | (simp; omega))) ?_
   clear fr a
   intro A71 cap72 w73 O74 hO75 mv76 a fr
   have ap2_A71_FpR : ∀ k, inA A71 k → FpR k → False := moved_apart2P mv76 (fun k h _ => apart_none k h) fun _ hg => H.lt hg
   have ap_A71_b1 : Apart A71 b1 := moved_apart mv76 (apart_none b1) B4.lt
   have ap_A71_b6 : Apart A71 b6 := moved_apart mv76 (apart_none b6) B9.lt
   have ap_A71_b11 : Apart A71 b11 := moved_apart mv76 (apart_none b11) B14.lt
   have ap2_A71_Q21 : Apart2 A71 Q21 := moved_apart2 mv76 (fun k h _ => apart_none k h) fun _ hg => hQ24.lt hg
   have ap_A71_b26 : Apart A71 b26 := moved_apart mv76 (apart_none b26) B29.lt
   have ap2_A71_A66 : Apart2 A71 A66 := moved_apart2 mv76 (fun k h _ => apart_none k h) fun _ hg => O69.lt hg
   have gA_A71 := gA_moved hF mv76 gA_none
   have gN_A71 := fun g (hg : inA A71 g) => (mv76 g hg).elim (fun h => absurd h (apart_none g)) (fun h => Nat.le_trans hF.size h)
   replace hO75 := only_none hO75
   replace H := H.new hO75
   replace B4 := B4.new hO75
   replace B9 := B9.new hO75
   replace B14 := B14.new hO75
   replace hQ24 := hQ24.new hO75
   replace B29 := B29.new hO75
   replace O69 := O69.new hO75
   replace hF := hF.trNew hO75
   simp only [List.nil_append] at fr O74
   refine wpList_nil ?_
   refine ⟨⟨H, B4, B9, B14, hQ24, B29, trivial⟩, ?_⟩
   refine fx_one (i := 5) (by kernel_rfl) (fx_op rfl ?_)
   refine fx_append (E := msgE) (l := (entOf E m.line.toNat).q) (l' := [m]) elMsg fr rfl rfl (by decide) rfl (fr.ev rfl) (fr.ev rfl) (by first | rfl | (simp; done) | (simp; omega)) (by first | rfl | (simp; done) | (simp; omega)) O74 O69.view (by first | omega | (simp only [List.length_append, List.length_cons, List.length_nil, List.length_drop, List.length_map]; omega) | (simp; omega)) (by first | (unfold maxLen; done) | (unfold maxLen; first | omega | (simp only [List.length_append, List.length_cons, List.length_nil]; omega) | (simp; done) | (simp; omega))) ?_
   clear fr a
   intro A77 cap78 w79 O80 hO81 mv82 a fr
   have ap2_A77_FpR : ∀ k, inA A77 k → FpR k → False := moved_apart2P mv82 ap2_A71_FpR fun _ hg => H.lt hg
   have ap_A77_b1 : Apart A77 b1 := moved_apart mv82 ap_A71_b1 B4.lt
   have ap_A77_b6 : Apart A77 b6 := moved_apart mv82 ap_A71_b6 B9.lt
   have ap_A77_b11 : Apart A77 b11 := moved_apart mv82 ap_A71_b11 B14.lt
   have ap2_A77_Q21 : Apart2 A77 Q21 := moved_apart2 mv82 ap2_A71_Q21 fun _ hg => hQ24.lt hg
   have ap_A77_b26 : Apart A77 b26 := moved_apart mv82 ap_A71_b26 B29.lt
   have ap2_A77_A66 : Apart2 A77 A66 := moved_apart2 mv82 ap2_A71_A66 fun _ hg => O69.lt hg
   have gA_A77 := gA_moved hF mv82 gA_A71
   have gN_A77 := fun g (hg : inA A77 g) => (mv82 g hg).elim (gN_A71 g) (fun h => Nat.le_trans hF.size h)
   replace H := H.only hO81 (fun g h1 h2 => (symP ap2_A71_FpR) g h1 h2)
   replace B4 := B4.only hO81 ap_A71_b1
   replace B9 := B9.only hO81 ap_A71_b6
   replace B14 := B14.only hO81 ap_A71_b11
   replace hQ24 := hQ24.only hO81 (fun g h1 h2 => ap2_A71_Q21.symm g h1 h2)
   replace B29 := B29.only hO81 ap_A71_b26
   replace O69 := O69.only hO81 (fun g h1 h2 => ap2_A71_A66.symm g h1 h2)
   replace hF := hF.locA hO81 gA_A71
   clear O74
   refine wpList_nil ?_
   refine ⟨⟨H, B4, B9, B14, hQ24, B29, trivial⟩, ?_⟩
   refine fx_hdone (by kernel_rfl) ?_
   refine fx_tail ?_
   refine fx_val (v := .pointer (some ⟨b26, 10, none⟩)) fr rfl rfl (by decide) (x_fieldAddr fo42_7 rfl (fr.ev rfl) rfl) ?_
   clear fr a; intro a fr
   refine fx_store1 sz23 rfl rfl rfl (fr.ev rfl) (fr.ev rfl) rfl B29 (show 10 < 11 by decide) (cs' := entA (Ent.mk ((entOf E m.line.toNat).o) ((entOf E m.line.toNat).sh) ((entOf E m.line.toNat).busy) ((entOf E m.line.toNat).asks) ((entOf E m.line.toNat).kind) ((entOf E m.line.toNat).waits) ((entOf E m.line.toNat).told) (((entOf E m.line.toNat).q) ++ ([m]))) (.slice A77 ((((entOf E m.line.toNat).q) ++ ([m])).length) cap78)) rfl fun w83 hO84 hBq => ?_
   replace H := H.only hO84 (ne1P ap_FpR_b26)
   replace B4 := B4.only hO84 (by first | exact ne_b1_b26 | exact ne_b26_b1.symm | (show ¬ b1 = b26; omega))
   replace B9 := B9.only hO84 (by first | exact ne_b6_b26 | exact ne_b26_b6.symm | (show ¬ b6 = b26; omega))
   replace B14 := B14.only hO84 (by first | exact ne_b11_b26 | exact ne_b26_b11.symm | (show ¬ b11 = b26; omega))
   replace hQ24 := hQ24.only hO84 (Apart.ne1 ap_Q21_b26)
   replace O69 := O69.only hO84 (Apart.ne1 ap_A66_b26)
   replace O80 := O80.only hO84 (Apart.ne1 ap_A77_b26)
   replace hF := hF.loc hO84 (.inr g_b26)
   replace B29 := hBq
   clear hBq
   refine wpList_nil ?_
   refine fx_next ?_
   refine wp_seq ?_
   refine wp_region_lit ?_
   refine fx_val (v := .agg (#[.slice A bs.length cap, .slice B E.length cb])) fr rfl rfl (by decide) (x_loadS ag28 rfl (fr.ev rfl) rfl B4.range) ?_
   clear fr a; intro a fr
   refine fx_val (v := .int .u32 m.line) fr rfl rfl (by decide) (x_move rfl (fr.ev rfl)) ?_
   clear fr a; intro a fr
   refine fx_val (v := .agg (entA (Ent.mk ((entOf E m.line.toNat).o) ((entOf E m.line.toNat).sh) ((entOf E m.line.toNat).busy) ((entOf E m.line.toNat).asks) ((entOf E m.line.toNat).kind) ((entOf E m.line.toNat).waits) ((entOf E m.line.toNat).told) (((entOf E m.line.toNat).q) ++ ([m]))) (.slice A77 ((((entOf E m.line.toNat).q) ++ ([m])).length) cap78))) fr rfl rfl (by decide) (x_loadS ag42 rfl (fr.ev rfl) rfl B29.range) ?_
   clear fr a; intro a fr
   refine fx_call fr rfl rfl (by decide) (x_call (vs := [.agg (#[.slice A bs.length cap, .slice B E.length cb]), .int .u32 m.line, .agg (entA (Ent.mk ((entOf E m.line.toNat).o) ((entOf E m.line.toNat).sh) ((entOf E m.line.toNat).busy) ((entOf E m.line.toNat).asks) ((entOf E m.line.toNat).kind) ((entOf E m.line.toNat).waits) ((entOf E m.line.toNat).told) (((entOf E m.line.toNat).q) ++ ([m]))) (.slice A77 ((((entOf E m.line.toNat).q) ++ ([m])).length) cap78))]) rfl rfl ⟨(fr.ev rfl), (fr.ev rfl), (fr.ev rfl), trivial⟩ Try.func40 nm40 rfl) (rwith_r m.line m.hn (Ent.mk ((entOf E m.line.toNat).o) ((entOf E m.line.toNat).sh) ((entOf E m.line.toNat).busy) ((entOf E m.line.toNat).asks) ((entOf E m.line.toNat).kind) ((entOf E m.line.toNat).waits) ((entOf E m.line.toNat).told) (((entOf E m.line.toNat).q) ++ ([m]))) A77 cap78 H (by omega) (by omega) O80.view) ?_
   clear fr a
   rintro v w90 ⟨B85, cb86, FpR87, rfl, H88, mv89, hN91⟩ a fr
   have mQ_A77 : ∀ g, inA A77 g → FpR g ∨ w.heap.size ≤ g := fun g hg => .inr (gN_A77 g hg)
   have ap_FpR87_b1 : ¬ FpR87 b1 := moved_apartP mv89 (fun h => h.elim ap_FpR_b1 ap_A77_b1) B4.lt
   have ap_FpR87_b6 : ¬ FpR87 b6 := moved_apartP mv89 (fun h => h.elim ap_FpR_b6 ap_A77_b6) B9.lt
   have ap_FpR87_b11 : ¬ FpR87 b11 := moved_apartP mv89 (fun h => h.elim ap_FpR_b11 ap_A77_b11) B14.lt
   have ap2_FpR87_A66 : ∀ k, FpR87 k → inA A66 k → False := moved_apart2P mv89 (fun k hk => (fun h => h.elim (ap2_FpR_A66 k) (ap2_A77_A66 k)) hk) fun _ hg => O69.lt hg
   have ap_FpR87_b26 : ¬ FpR87 b26 := moved_apartP mv89 (fun h => h.elim ap_FpR_b26 ap_A77_b26) B29.lt
   have mF_FpR87 : ∀ g, FpR87 g → FpR g ∨ w.heap.size ≤ g := fun g hg => (mv89 g hg).elim (fun h => h.elim (mF_FpR g) (mQ_A77 g)) (fun h => .inr (Nat.le_trans hF.size h))
   replace H := H.new hN91
   replace B4 := B4.new hN91
   replace B9 := B9.new hN91
   replace B14 := B14.new hN91
   replace hQ24 := hQ24.new hN91
   replace O69 := O69.new hN91
   replace O80 := O80.new hN91
   replace B29 := B29.new hN91
   replace hF := hF.trNew hN91
   have hel92 : (E.set m.line.toNat (Ent.mk ((entOf E m.line.toNat).o) ((entOf E m.line.toNat).sh) ((entOf E m.line.toNat).busy) ((entOf E m.line.toNat).asks) ((entOf E m.line.toNat).kind) ((entOf E m.line.toNat).waits) ((entOf E m.line.toNat).told) (((entOf E m.line.toNat).q) ++ ([m])))).length = E.length := List.length_set
   have hxl93 := H88.len
   simp only [List.length_set] at hxl93
   refine fx_storeS sz28 rfl rfl rfl (fr.ev rfl) (fr.ev rfl) (by simp [Value.oneCell']) B14 rfl rfl fun w94 hO95 hBq => ?_
   replace H := H.only hO95 (ne1P ap_FpR_b11)
   replace B4 := B4.only hO95 (by first | exact ne_b1_b11 | exact ne_b11_b1.symm | (show ¬ b1 = b11; omega))
   replace B9 := B9.only hO95 (by first | exact ne_b6_b11 | exact ne_b11_b6.symm | (show ¬ b6 = b11; omega))
   replace hQ24 := hQ24.only hO95 (Apart.ne1 ap_Q21_b11)
   replace O69 := O69.only hO95 (Apart.ne1 ap_A66_b11)
   replace O80 := O80.only hO95 (Apart.ne1 ap_A77_b11)
   replace B29 := B29.only hO95 (by first | exact ne_b26_b11 | exact ne_b11_b26.symm | (show ¬ b26 = b11; omega))
   replace H88 := H88.only hO95 (ne1P ap_FpR87_b11)
   replace hF := hF.loc hO95 (.inr g_b11)
   replace B14 := hBq
   clear hBq
   refine fx_val (v := .slice none 0 0) fr rfl rfl (by decide) (x_assign rfl rfl) ?_
   clear fr a; intro a fr
   refine fx_val (v := .int .i64 0) fr rfl rfl (by decide) (x_assign rfl rfl) ?_
   clear fr a; intro a fr
   refine wpList_nil ?_
   refine fx_next ?_
   refine wp_ret ?_
   refine fx_rt ?_
   refine fx_rt ?_
   refine fx_ret fr [.cell 4 28, .tmp 5, .tmp 6] [.agg (#[.slice A bs.length cap, .slice B85 ((E.set m.line.toNat (Ent.mk ((entOf E m.line.toNat).o) ((entOf E m.line.toNat).sh) ((entOf E m.line.toNat).busy) ((entOf E m.line.toNat).asks) ((entOf E m.line.toNat).kind) ((entOf E m.line.toNat).waits) ((entOf E m.line.toNat).told) (((entOf E m.line.toNat).q) ++ ([m])))).length) cb86]), .slice none 0 0, .int .i64 0] rfl ⟨⟨_, rfl, x_loadV ag28 rfl B14.range⟩, rfl, rfl, trivial⟩ rfl ?_
   rw [if_pos hc33]
   exact ⟨_, rfl, A, cap, B85, cb86, FpR87, none, 0, rfl, ⟨_, H88⟩, Own.nil, mF_FpR87, fun g hg => absurd hg (apart_none g), fun g _ hg => apart_none g hg, hF⟩
 ·skip
  refine wp_skip ?_
  refine fx_next ?_
  refine wp_seq ?_
  refine wp_region_lit ?_
  refine fx_val (v := .agg (#[.slice A bs.length cap, .slice B E.length cb])) fr rfl rfl (by decide) (x_loadS ag28 rfl (fr.ev rfl) rfl B4.range) ?_
  clear fr a; intro a fr
  refine fx_val (v := .agg (msgE.arr m)) fr rfl rfl (by decide) (x_loadE (E := msgE) ag36 rfl rfl (fr.ev rfl) (B9.rangeE msgE)) ?_
  clear fr a; intro a fr
  refine fx_call fr rfl rfl (by decide) (x_call (vs := [.agg (#[.slice A bs.length cap, .slice B E.length cb]), .agg (msgE.arr m)]) rfl rfl ⟨(fr.ev rfl), (fr.ev rfl), trivial⟩ Try.func41 nm41 rfl) (rbegin_c m H (by omega) (by omega) (by omega) hsrc hkd) ?_
  clear fr a
  rintro v w109 ⟨A96, cap97, B98, cb99, FpR100, M101, mc102, rfl, ⟨X103, H104⟩, O105, mv106, hM107, hap108, hN110⟩ a fr
  have ap_FpR100_b1 : ¬ FpR100 b1 := moved_apartP mv106 ap_FpR_b1 B4.lt
  have ap_FpR100_b6 : ¬ FpR100 b6 := moved_apartP mv106 ap_FpR_b6 B9.lt
  have ap_FpR100_b11 : ¬ FpR100 b11 := moved_apartP mv106 ap_FpR_b11 B14.lt
  have ap_FpR100_b26 : ¬ FpR100 b26 := moved_apartP mv106 ap_FpR_b26 B29.lt
  have mF_FpR100 : ∀ g, FpR100 g → FpR g ∨ w.heap.size ≤ g := fun g hg => (mv106 g hg).elim (mF_FpR g) (fun h => .inr (Nat.le_trans hF.size h))
  have ap2_FpR_M101 : ∀ k, FpR k → inA M101 k → False := symP (new_apart2P hM107 fun _ hg => H.lt hg)
  have ap_M101_b1 : Apart M101 b1 := new_apart hM107 B4.lt
  have ap_M101_b6 : Apart M101 b6 := new_apart hM107 B9.lt
  have ap_M101_b11 : Apart M101 b11 := new_apart hM107 B14.lt
  have ap2_Q21_M101 : Apart2 Q21 M101 := (new_apart2 hM107 fun _ hg => hQ24.lt hg).symm
  have ap_M101_b26 : Apart M101 b26 := new_apart hM107 B29.lt
  have gA_M101 := gA_new hF hM107
  have gN_M101 := fun g (hg : inA M101 g) => Nat.le_trans hF.size (hM107 g hg)
  have ap2_FpR100_M101 := hap108
  replace H := H.new hN110
  replace B4 := B4.new hN110
  replace B9 := B9.new hN110
  replace B14 := B14.new hN110
  replace hQ24 := hQ24.new hN110
  replace B29 := B29.new hN110
  replace hF := hF.trNew hN110
  have hbn111 := begin_len (bs := bs) (d := (entOf E m.line.toNat)) (m := m)
  have hbs112 := begin_bs (bs := bs) (d := (entOf E m.line.toNat)) (m := m)
  have hel113 : (E.set m.line.toNat (beginF bs (entOf E m.line.toNat) m).1).length = E.length := List.length_set
  refine fx_val (v := .tuple #[.agg (#[.slice A96 (((beginF bs (entOf E m.line.toNat) m).2.1).length) cap97, .slice B98 ((E.set m.line.toNat (beginF bs (entOf E m.line.toNat) m).1).length) cb99]), .slice M101 ((beginF bs (entOf E m.line.toNat) m).2.2.length) mc102]) fr rfl rfl (by decide) (x_move rfl (fr.ev rfl)) ?_
  clear fr a; intro a fr
  refine fx_val (v := .agg (#[.slice A96 (((beginF bs (entOf E m.line.toNat) m).2.1).length) cap97, .slice B98 ((E.set m.line.toNat (beginF bs (entOf E m.line.toNat) m).1).length) cb99])) fr rfl rfl (by decide) (x_extract rfl (fr.ev rfl) rfl) ?_
  clear fr a; intro a fr
  refine fx_val (v := .slice M101 ((beginF bs (entOf E m.line.toNat) m).2.2.length) mc102) fr rfl rfl (by decide) (x_extract rfl (fr.ev rfl) rfl) ?_
  clear fr a; intro a fr
  refine fx_new fr rfl rfl (by decide) (x_alloc (z := .agg (#[.slice none 0 0, .slice none 0 0])) (cs := #[.slice none 0 0, .slice none 0 0]) rfl (by kernel_rfl) rfl) ?_
  clear fr a
  intro b114 w115 hN116 B117 hb118 a fr
  have ap_FpR_b114 : ¬ FpR b114 := H.apart hb118
  have ne_b1_b114 : NE b1 b114 := NE.mk (Nat.lt_of_lt_of_le B4.lt hb118)
  have ne_b6_b114 : NE b6 b114 := NE.mk (Nat.lt_of_lt_of_le B9.lt hb118)
  have ne_b11_b114 : NE b11 b114 := NE.mk (Nat.lt_of_lt_of_le B14.lt hb118)
  have ap_Q21_b114 : Apart Q21 b114 := hQ24.apart hb118
  have ne_b26_b114 : NE b26 b114 := NE.mk (Nat.lt_of_lt_of_le B29.lt hb118)
  have ap_FpR100_b114 : ¬ FpR100 b114 := H104.apart hb118
  have ap_M101_b114 : Apart M101 b114 := O105.apart hb118
  have g_b114 := Nat.le_trans hF.size hb118
  replace H := H.new hN116
  replace B4 := B4.new hN116
  replace B9 := B9.new hN116
  replace B14 := B14.new hN116
  replace hQ24 := hQ24.new hN116
  replace B29 := B29.new hN116
  replace H104 := H104.new hN116
  replace O105 := O105.new hN116
  replace hF := hF.trNew hN116
  refine fx_storeS sz28 rfl rfl rfl (fr.ev rfl) (fr.ev rfl) (by simp [Value.oneCell']) B117 rfl rfl fun w119 hO120 hBq => ?_
  replace H := H.only hO120 (ne1P ap_FpR_b114)
  replace B4 := B4.only hO120 (by first | exact ne_b1_b114 | exact ne_b114_b1.symm | (show ¬ b1 = b114; omega))
  replace B9 := B9.only hO120 (by first | exact ne_b6_b114 | exact ne_b114_b6.symm | (show ¬ b6 = b114; omega))
  replace B14 := B14.only hO120 (by first | exact ne_b11_b114 | exact ne_b114_b11.symm | (show ¬ b11 = b114; omega))
  replace hQ24 := hQ24.only hO120 (Apart.ne1 ap_Q21_b114)
  replace B29 := B29.only hO120 (by first | exact ne_b26_b114 | exact ne_b114_b26.symm | (show ¬ b26 = b114; omega))
  replace H104 := H104.only hO120 (ne1P ap_FpR100_b114)
  replace O105 := O105.only hO120 (Apart.ne1 ap_M101_b114)
  replace hF := hF.loc hO120 (.inr g_b114)
  replace B117 := hBq
  clear hBq
  refine fx_val (v := .slice M101 ((beginF bs (entOf E m.line.toNat) m).2.2.length) mc102) fr rfl rfl (by decide) (x_assign rfl (fr.ev rfl)) ?_
  clear fr a; intro a fr
  refine wpList_nil ?_
  refine fx_next ?_
  refine wp_seq ?_
  refine wp_region_lit ?_
  refine fx_val (v := .agg (#[.slice A96 (((beginF bs (entOf E m.line.toNat) m).2.1).length) cap97, .slice B98 ((E.set m.line.toNat (beginF bs (entOf E m.line.toNat) m).1).length) cb99])) fr rfl rfl (by decide) (x_loadS ag28 rfl (fr.ev rfl) rfl B117.range) ?_
  clear fr a; intro a fr
  refine fx_val (v := .slice M101 ((beginF bs (entOf E m.line.toNat) m).2.2.length) mc102) fr rfl rfl (by decide) (x_move rfl (fr.ev rfl)) ?_
  clear fr a; intro a fr
  refine fx_storeS sz28 rfl rfl rfl (fr.ev rfl) (fr.ev rfl) (by simp [Value.oneCell']) B14 rfl rfl fun w121 hO122 hBq => ?_
  replace H := H.only hO122 (ne1P ap_FpR_b11)
  replace B4 := B4.only hO122 (by first | exact ne_b1_b11 | exact ne_b11_b1.symm | (show ¬ b1 = b11; omega))
  replace B9 := B9.only hO122 (by first | exact ne_b6_b11 | exact ne_b11_b6.symm | (show ¬ b6 = b11; omega))
  replace hQ24 := hQ24.only hO122 (Apart.ne1 ap_Q21_b11)
  replace B29 := B29.only hO122 (by first | exact ne_b26_b11 | exact ne_b11_b26.symm | (show ¬ b26 = b11; omega))
  replace H104 := H104.only hO122 (ne1P ap_FpR100_b11)
  replace O105 := O105.only hO122 (Apart.ne1 ap_M101_b11)
  replace B117 := B117.only hO122 (by first | exact ne_b114_b11 | exact ne_b11_b114.symm | (show ¬ b114 = b11; omega))
  replace hF := hF.loc hO122 (.inr g_b11)
  replace B14 := hBq
  clear hBq
  refine fx_val (v := .slice M101 ((beginF bs (entOf E m.line.toNat) m).2.2.length) mc102) fr rfl rfl (by decide) (x_assign rfl (fr.ev rfl)) ?_
  clear fr a; intro a fr
  refine fx_val (v := .int .i64 0) fr rfl rfl (by decide) (x_assign rfl rfl) ?_
  clear fr a; intro a fr
  refine wpList_nil ?_
  refine fx_next ?_
  refine wp_ret ?_
  refine fx_rt ?_
  refine fx_ret fr [.cell 4 28, .tmp 5, .tmp 6] [.agg (#[.slice A96 (((beginF bs (entOf E m.line.toNat) m).2.1).length) cap97, .slice B98 ((E.set m.line.toNat (beginF bs (entOf E m.line.toNat) m).1).length) cb99]), .slice M101 ((beginF bs (entOf E m.line.toNat) m).2.2.length) mc102, .int .i64 0] rfl ⟨⟨_, rfl, x_loadV ag28 rfl B14.range⟩, rfl, rfl, trivial⟩ rfl ?_
  rw [if_neg (by rw [hc33]; decide)]
  exact ⟨_, rfl, A96, cap97, B98, cb99, FpR100, M101, mc102, rfl, ⟨_, H104⟩, O105, mF_FpR100, gN_M101, ap2_FpR100_M101, hF⟩
set_option maxRecDepth 100000 in
set_option maxHeartbeats 4000000 in
theorem rtake_11 (m : Msg) {w : World} {FpR : Nat → Prop} {A : Option Addr} {cap : Nat} {B : Option Addr} {cb : Nat} {bs : List UInt8} {E : List Ent} {X : List EC} (H : RefAt w FpR A cap B cb ⟨bs, E⟩ X) (hk : m.line.toNat < E.length) (hEb : E.length = bs.length / 16) (hb4 : bs.length ≤ 4096) (hsrc : 0 ≤ m.src ∧ m.src < 4) (hc1 : ¬ chk m ≠ 0) (hc2 : ¬ m.dst ≠ 4) (hk1 : m.kind = 11) (hq : ∀ x ∈ (entOf E m.line.toNat).q, QOk m.line x) (hql : (entOf E m.line.toNat).q.length ≤ 100000) (hask : 0 ≤ (entOf E m.line.toNat).asks ∧ (entOf E m.line.toNat).asks < 4) (hw : 0 ≤ (entOf E m.line.toNat).waits ∧ (entOf E m.line.toNat).waits ≤ 4) : Calls Try.prog 19 #[.agg (#[.slice A bs.length cap, .slice B E.length cb]), .agg (msgE.arr m)] w (Ret fun v w' => (strayF (entOf E m.line.toNat) m = true ∧ v = .tuple #[.agg #[.slice A bs.length cap, .slice B E.length cb], .slice none 0 0, .int .i64 220] ∧ New w w') ∨ (strayF (entOf E m.line.toNat) m = false ∧ ∃ A' c' B' cb' F' M mc, v = .tuple #[.agg #[.slice A' (otherF bs (entOf E m.line.toNat) m).2.1.length c', .slice B' (E.set m.line.toNat (otherF bs (entOf E m.line.toNat) m).1).length cb'], .slice M (otherF bs (entOf E m.line.toNat) m).2.2.length mc, .int .i64 0] ∧ RefH w' F' A' c' B' cb' ⟨(otherF bs (entOf E m.line.toNat) m).2.1, E.set m.line.toNat (otherF bs (entOf E m.line.toNat) m).1⟩ ∧ Own msgE w' M mc (otherF bs (entOf E m.line.toNat) m).2.2 ∧ (∀ g, F' g → FpR g ∨ w.heap.size ≤ g) ∧ (∀ g, inA M g → w.heap.size ≤ g) ∧ (∀ g, F' g → inA M g → False) ∧ New w w')) := by
 have hmn := m.hn
 have hXl : X.length = E.length := H.len
 have mF_FpR : ∀ g, FpR g → FpR g ∨ w.heap.size ≤ g := fun g h => .inl h
 have hc3 : ¬ ((E.length : Nat) : Int) ≤ ((m.line.toNat : Nat) : Int) := by omega
 have hF := Only.refl (fun _ => False) w
 refine fx_enter Try.func19 rfl (N := (197, [])) (T := [(0, .agg (#[.slice A bs.length cap, .slice B E.length cb])), (1, .agg (msgE.arr m))]) rfl (show 2 ≤ 197 by decide) ⟨rfl, rfl, trivial⟩ fun a fr => ?_
 refine wp_seq ?_
 refine wp_region_lit ?_
 refine fx_new fr rfl rfl (by decide) (x_box (cs := #[.slice A bs.length cap, .slice B E.length cb]) rfl (fr.ev rfl) rfl) ?_
 clear fr a
 intro b1 w2 hN3 B4 hb5 a fr
 have ap_FpR_b1 : ¬ FpR b1 := H.apart hb5
 have g_b1 := Nat.le_trans hF.size hb5
 replace H := H.new hN3
 replace hF := hF.trNew hN3
 refine fx_new fr rfl rfl (by decide) (x_box (cs := msgE.arr m) rfl (fr.ev rfl) rfl) ?_
 clear fr a
 intro b6 w7 hN8 B9 hb10 a fr
 have ap_FpR_b6 : ¬ FpR b6 := H.apart hb10
 have ne_b1_b6 : NE b1 b6 := NE.mk (Nat.lt_of_lt_of_le B4.lt hb10)
 have g_b6 := Nat.le_trans hF.size hb10
 replace H := H.new hN8
 replace B4 := B4.new hN8
 replace hF := hF.trNew hN8
 refine fx_new fr rfl rfl (by decide) (x_alloc (z := .agg (#[.slice none 0 0, .slice none 0 0])) (cs := #[.slice none 0 0, .slice none 0 0]) rfl (by kernel_rfl) rfl) ?_
 clear fr a
 intro b11 w12 hN13 B14 hb15 a fr
 have ap_FpR_b11 : ¬ FpR b11 := H.apart hb15
 have ne_b1_b11 : NE b1 b11 := NE.mk (Nat.lt_of_lt_of_le B4.lt hb15)
 have ne_b6_b11 : NE b6 b11 := NE.mk (Nat.lt_of_lt_of_le B9.lt hb15)
 have g_b11 := Nat.le_trans hF.size hb15
 replace H := H.new hN13
 replace B4 := B4.new hN13
 replace B9 := B9.new hN13
 replace hF := hF.trNew hN13
 refine fx_val (v := .slice none 0 0) fr rfl rfl (by decide) (x_assign rfl rfl) ?_
 clear fr a; intro a fr
 refine fx_val (v := .int .i64 0) fr rfl rfl (by decide) (x_assign rfl rfl) ?_
 clear fr a; intro a fr
 refine wpList_nil ?_
 refine fx_next ?_
 refine wp_seq ?_
 refine wp_seq ?_
 refine wp_region_lit ?_
 refine fx_val (v := .agg (msgE.arr m)) fr rfl rfl (by decide) (x_loadE (E := msgE) ag36 rfl rfl (fr.ev rfl) (B9.rangeE msgE)) ?_
 clear fr a; intro a fr
 refine fx_call fr rfl rfl (by decide) (x_call (vs := [.agg (msgE.arr m)]) rfl rfl ⟨(fr.ev rfl), trivial⟩ Try.func39 nm39 rfl) (refchk_c m _) ?_
 clear fr a
 rintro v w16 ⟨rfl, hN17⟩ a fr
 replace H := H.new hN17
 replace B4 := B4.new hN17
 replace B9 := B9.new hN17
 replace B14 := B14.new hN17
 replace hF := hF.trNew hN17
 refine fx_val (v := .bool false) fr rfl rfl (by decide) (x_neq rfl (fr.ev rfl) rfl (decide_eq_false hc1)) ?_
 clear fr a; intro a fr
 refine fx_val (v := .bool false) fr rfl rfl (by decide) (x_move rfl (fr.ev rfl)) ?_
 clear fr a; intro a fr
 refine fx_val (v := .pointer (some ⟨b6, 2, none⟩)) fr (fr.want rfl rfl rfl) rfl (by decide) (x_fieldAddr fo36_2 rfl (fr.ev rfl) rfl) ?_
 clear fr a; intro a fr
 refine fx_val (v := .int .i64 m.dst) fr (fr.want rfl rfl rfl) rfl (by decide) (x_load1 pl3 rfl (fr.ev rfl) (B9.cell 2 rfl)) ?_
 clear fr a; intro a fr
 refine fx_val (v := .bool false) fr (fr.want rfl rfl rfl) rfl (by decide) (x_neq rfl (fr.ev rfl) rfl (decide_eq_false hc2)) ?_
 clear fr a; intro a fr
 refine fx_val (v := .bool false) fr rfl rfl (by decide) (x_pick_f rfl (fr.ev rfl) (fr.ev rfl)) ?_
 clear fr a; intro a fr
 refine wpList_nil ?_
 refine fx_next ?_
 refine fx_cond_f fr rfl ?_
 refine wp_skip ?_
 refine fx_next ?_
 refine wp_seq ?_
 refine wp_region_lit ?_
 refine fx_val (v := .pointer (some ⟨b6, 3, none⟩)) fr rfl rfl (by decide) (x_fieldAddr fo36_3 rfl (fr.ev rfl) rfl) ?_
 clear fr a; intro a fr
 refine fx_val (v := .int .u32 m.line) fr rfl rfl (by decide) (x_load1 pl24 rfl (fr.ev rfl) (B9.cell 3 rfl)) ?_
 clear fr a; intro a fr
 refine fx_val (v := .int .u32 m.line) fr rfl rfl (by decide) (x_assign rfl (fr.ev rfl)) ?_
 clear fr a; intro a fr
 refine wpList_nil ?_
 refine fx_next ?_
 refine wp_seq ?_
 refine wp_seq ?_
 refine wp_region_lit ?_
 refine fx_val (v := .int .u32 m.line) fr rfl rfl (by decide) (x_move rfl (fr.ev rfl)) ?_
 clear fr a; intro a fr
 refine fx_val (v := .int .i64 ((m.line.toNat : Nat) : Int)) fr rfl rfl (by decide) (x_convert Try.underlying24 Try.underlying2 rfl (fr.ev rfl) (i64w (r := ((m.line.toNat : Nat) : Int)) (by omega) (by omega))) ?_
 clear fr a; intro a fr
 refine fx_val (v := .pointer (some ⟨b1, 1, none⟩)) fr rfl rfl (by decide) (x_fieldAddr fo28_1 rfl (fr.ev rfl) rfl) ?_
 clear fr a; intro a fr
 refine fx_val (v := .slice B E.length cb) fr rfl rfl (by decide) (x_load1 pl26 rfl (fr.ev rfl) (B4.cell 1 rfl)) ?_
 clear fr a; intro a fr
 refine fx_val (v := .int .i64 ((E.length : Nat) : Int)) fr rfl rfl (by decide) (x_len Try.underlying26 rfl (fr.ev rfl)) ?_
 clear fr a; intro a fr
 refine fx_val (v := .bool false) fr rfl rfl (by decide) (x_geq rfl (fr.ev rfl) (fr.ev rfl) (decide_eq_false hc3)) ?_
 clear fr a; intro a fr
 refine wpList_nil ?_
 refine fx_next ?_
 refine fx_cond_f fr rfl ?_
 refine wp_skip ?_
 refine fx_next ?_
 refine wp_seq ?_
 refine wp_region_lit ?_
 refine fx_val (v := .pointer (some ⟨b1, 1, none⟩)) fr rfl rfl (by decide) (x_fieldAddr fo28_1 rfl (fr.ev rfl) rfl) ?_
 clear fr a; intro a fr
 refine fx_val (v := .slice B E.length cb) fr rfl rfl (by decide) (x_load1 pl26 rfl (fr.ev rfl) (B4.cell 1 rfl)) ?_
 clear fr a; intro a fr
 refine fx_val (v := .int .u32 m.line) fr rfl rfl (by decide) (x_move rfl (fr.ev rfl)) ?_
 clear fr a; intro a fr
 refine fx_val (v := .int .i64 ((m.line.toNat : Nat) : Int)) fr rfl rfl (by decide) (x_convert Try.underlying24 Try.underlying3 rfl (fr.ev rfl) (i64w (r := ((m.line.toNat : Nat) : Int)) (by omega) (by omega))) ?_
 clear fr a; intro a fr
 obtain ⟨g18, o19, hA20⟩ := (H.ve).some_ (by first | omega | decide)
 refine fx_val (v := .pointer (some ⟨g18, o19 + m.line.toNat * 11, none⟩)) fr rfl rfl (by decide) (x_indexV Try.underlying26 sz42 rfl (fr.ev rfl) hA20 (fr.ev rfl) (by first | omega | decide) rfl) ?_
 clear fr a; intro a fr
 obtain ⟨Q21, qc22, hat23, hQ24, hQF25⟩ := H.at_ m.line.toNat (by omega)
 dsimp only at hat23 hQ24
 have mQ_Q21 := fun g (hg : inA Q21 g) => mF_FpR g (hQF25 g hg)
 have ap_Q21_b1 : Apart Q21 b1 := fun h => ap_FpR_b1 (hQF25 _ h)
 have ap_Q21_b6 : Apart Q21 b6 := fun h => ap_FpR_b6 (hQF25 _ h)
 have ap_Q21_b11 : Apart Q21 b11 := fun h => ap_FpR_b11 (hQF25 _ h)
 refine fx_val (v := .agg (entA (entOf E m.line.toNat) (.slice Q21 ((entOf E m.line.toNat).q.length) qc22))) fr rfl rfl (by decide) (x_loadE (E := ecE) (p := ecOf (entOf E m.line.toNat) Q21 qc22) ag42 rfl rfl (fr.ev rfl) (H.cell hat23 (by omega) hA20)) ?_
 clear fr a; intro a fr
 refine fx_new fr rfl rfl (by decide) (x_alloc (z := .agg (#[.int .i64 0, .bool false, .bool false, .bool false, .bool false, .bool false, .int .i64 0, .int .i64 0, .int .i64 0, .bool false, .slice none 0 0])) (cs := #[.int .i64 0, .bool false, .bool false, .bool false, .bool false, .bool false, .int .i64 0, .int .i64 0, .int .i64 0, .bool false, .slice none 0 0]) rfl (by kernel_rfl) rfl) ?_
 clear fr a
 intro b26 w27 hN28 B29 hb30 a fr
 have ap_FpR_b26 : ¬ FpR b26 := H.apart hb30
 have ne_b1_b26 : NE b1 b26 := NE.mk (Nat.lt_of_lt_of_le B4.lt hb30)
 have ne_b6_b26 : NE b6 b26 := NE.mk (Nat.lt_of_lt_of_le B9.lt hb30)
 have ne_b11_b26 : NE b11 b26 := NE.mk (Nat.lt_of_lt_of_le B14.lt hb30)
 have ap_Q21_b26 : Apart Q21 b26 := hQ24.apart hb30
 have g_b26 := Nat.le_trans hF.size hb30
 replace H := H.new hN28
 replace B4 := B4.new hN28
 replace B9 := B9.new hN28
 replace B14 := B14.new hN28
 replace hQ24 := hQ24.new hN28
 replace hF := hF.trNew hN28
 refine fx_storeS sz42 rfl rfl rfl (fr.ev rfl) (fr.ev rfl) (ent_all _ _ _ _) B29 rfl rfl fun w31 hO32 hBq => ?_
 replace H := H.only hO32 (ne1P ap_FpR_b26)
 replace B4 := B4.only hO32 (by first | exact ne_b1_b26 | exact ne_b26_b1.symm | (show ¬ b1 = b26; omega))
 replace B9 := B9.only hO32 (by first | exact ne_b6_b26 | exact ne_b26_b6.symm | (show ¬ b6 = b26; omega))
 replace B14 := B14.only hO32 (by first | exact ne_b11_b26 | exact ne_b26_b11.symm | (show ¬ b11 = b26; omega))
 replace hQ24 := hQ24.only hO32 (Apart.ne1 ap_Q21_b26)
 replace hF := hF.loc hO32 (.inr g_b26)
 replace B29 := hBq
 clear hBq
 refine wpList_nil ?_
 refine fx_next ?_
 refine wp_seq ?_
 refine wp_region_lit ?_
 refine fx_val (v := .pointer (some ⟨b6, 0, none⟩)) fr rfl rfl (by decide) (x_fieldAddr fo36_0 rfl (fr.ev rfl) rfl) ?_
 clear fr a; intro a fr
 refine fx_val (v := .int .i64 m.kind) fr rfl rfl (by decide) (x_load1 pl33 rfl (fr.ev rfl) (B9.cell 0 rfl)) ?_
 clear fr a; intro a fr
 refine fx_val (v := .int .i64 m.kind) fr rfl rfl (by decide) (x_assign rfl (fr.ev rfl)) ?_
 clear fr a; intro a fr
 refine wpList_nil ?_
 refine fx_next ?_
 refine wp_seq ?_
 refine wp_seq ?_
 refine wp_region_lit ?_
 refine fx_val (v := .int .i64 m.kind) fr rfl rfl (by decide) (x_move rfl (fr.ev rfl)) ?_
 clear fr a; intro a fr
 refine fx_val (v := .bool false) fr rfl rfl (by decide) (x_leq rfl (fr.ev rfl) rfl (decide_eq_false (by omega))) ?_
 clear fr a; intro a fr
 refine wpList_nil ?_
 refine fx_next ?_
 refine fx_cond_f fr rfl ?_
 refine wp_skip ?_
 refine fx_next ?_
 refine wp_seq ?_
 refine wp_seq ?_
 refine wp_region_lit ?_
 refine fx_val (v := .pointer (some ⟨b26, 5, none⟩)) fr rfl rfl (by decide) (x_fieldAddr fo42_2 rfl (fr.ev rfl) rfl) ?_
 clear fr a; intro a fr
 refine fx_val (v := .bool ((entOf E m.line.toNat).busy)) fr rfl rfl (by decide) (x_load1 pl4 rfl (fr.ev rfl) (B29.cell 5 rfl)) ?_
 clear fr a; intro a fr
 refine fx_val (v := .bool (!((entOf E m.line.toNat).busy))) fr rfl rfl (by decide) (x_not rfl (fr.ev rfl) rfl) ?_
 clear fr a; intro a fr
 refine fx_val (v := .bool (!((entOf E m.line.toNat).busy))) fr rfl rfl (by decide) (x_move rfl (fr.ev rfl)) ?_
 clear fr a; intro a fr
 refine fx_may (g := !(!((entOf E m.line.toNat).busy))) (v := .int .i64 m.kind) fr rfl rfl rfl (by simp) rfl (by decide) (fun hg => x_move rfl (fr.ev rfl)) ?_
 clear fr a; intro a fr
 refine fx_may (g := !(!((entOf E m.line.toNat).busy))) (v := .bool true) fr rfl rfl rfl (by simp) rfl (by decide) (fun hg => x_lss rfl ((fr.ev rfl).trans (onlyIf_t hg)) rfl (decide_eq_true (by omega))) ?_
 clear fr a; intro a fr
 refine fx_may (g := !(!((entOf E m.line.toNat).busy))) (v := .bool true) fr rfl rfl rfl (by simp) rfl (by decide) (fun hg => x_move rfl ((fr.ev rfl).trans (onlyIf_t hg))) ?_
 clear fr a; intro a fr
 refine fx_may2 (g := (!(!((entOf E m.line.toNat).busy))) && true) (v := .pointer (some ⟨b26, 8, none⟩)) fr rfl rfl rfl (by simp) rfl (by decide) (fun hg => x_fieldAddr fo42_5 rfl (fr.ev rfl) rfl) ?_
 clear fr a; intro a fr
 refine fx_may2 (g := (!(!((entOf E m.line.toNat).busy))) && true) (v := .int .i64 ((entOf E m.line.toNat).waits)) fr rfl rfl rfl (by simp) rfl (by decide) (fun hg => x_load1 pl3 rfl ((fr.ev rfl).trans (onlyIf_t hg)) (B29.cell 8 rfl)) ?_
 clear fr a; intro a fr
 refine fx_may2 (g := (!(!((entOf E m.line.toNat).busy))) && true) (v := .bool (decide ((entOf E m.line.toNat).waits < 1))) fr rfl rfl rfl (by simp) rfl (by decide) (fun hg => x_lss rfl ((fr.ev rfl).trans (onlyIf_t hg)) rfl rfl) ?_
 clear fr a; intro a fr
 refine fx_may (g := !(!((entOf E m.line.toNat).busy))) (v := .bool (decide ((entOf E m.line.toNat).waits < 1))) fr rfl rfl rfl (by simp) rfl (by decide) (fun hg => x_pick_t rfl ((fr.ev rfl).trans (onlyIf_t hg)) ((fr.ev rfl).trans (onlyIf_t (by rw [hg]; rfl)))) ?_
 clear fr a; intro a fr
 refine fx_val (v := .bool ((!((entOf E m.line.toNat).busy)) || (decide ((entOf E m.line.toNat).waits < 1)))) fr rfl rfl (by decide) (x_pick_or rfl (fr.ev rfl) (fun _ => rfl) (fun hb => ((fr.ev rfl)).trans (onlyIf_t (by simp_all))) rfl) ?_
 clear fr a; intro a fr
 refine fx_val (v := .bool ((!((entOf E m.line.toNat).busy)) || (decide ((entOf E m.line.toNat).waits < 1)))) fr rfl rfl (by decide) (x_move rfl (fr.ev rfl)) ?_
 clear fr a; intro a fr
 refine fx_may (g := !((!((entOf E m.line.toNat).busy)) || (decide ((entOf E m.line.toNat).waits < 1)))) (v := .int .i64 m.kind) fr rfl rfl rfl (by simp) rfl (by decide) (fun hg => x_move rfl (fr.ev rfl)) ?_
 clear fr a; intro a fr
 refine fx_may (g := !((!((entOf E m.line.toNat).busy)) || (decide ((entOf E m.line.toNat).waits < 1)))) (v := .bool true) fr rfl rfl rfl (by simp) rfl (by decide) (fun hg => x_eql rfl ((fr.ev rfl).trans (onlyIf_t hg)) rfl (decide_eq_true (by omega))) ?_
 clear fr a; intro a fr
 refine fx_may (g := !((!((entOf E m.line.toNat).busy)) || (decide ((entOf E m.line.toNat).waits < 1)))) (v := .bool true) fr rfl rfl rfl (by simp) rfl (by decide) (fun hg => x_move rfl ((fr.ev rfl).trans (onlyIf_t hg))) ?_
 clear fr a; intro a fr
 refine fx_may2 (g := (!((!((entOf E m.line.toNat).busy)) || (decide ((entOf E m.line.toNat).waits < 1)))) && true) (v := .pointer (some ⟨b26, 0, none⟩)) fr rfl rfl rfl (by simp) rfl (by decide) (fun hg => x_fieldAddr fo42_0 rfl (fr.ev rfl) rfl) ?_
 clear fr a; intro a fr
 refine fx_may2 (g := (!((!((entOf E m.line.toNat).busy)) || (decide ((entOf E m.line.toNat).waits < 1)))) && true) (v := .int .i64 ((entOf E m.line.toNat).o)) fr rfl rfl rfl (by simp) rfl (by decide) (fun hg => x_load1 pl3 rfl ((fr.ev rfl).trans (onlyIf_t hg)) (B29.cell 0 rfl)) ?_
 clear fr a; intro a fr
 refine fx_may2 (g := (!((!((entOf E m.line.toNat).busy)) || (decide ((entOf E m.line.toNat).waits < 1)))) && true) (v := .pointer (some ⟨b6, 1, none⟩)) fr rfl rfl rfl (by simp) rfl (by decide) (fun hg => x_fieldAddr fo36_1 rfl (fr.ev rfl) rfl) ?_
 clear fr a; intro a fr
 refine fx_may2 (g := (!((!((entOf E m.line.toNat).busy)) || (decide ((entOf E m.line.toNat).waits < 1)))) && true) (v := .int .i64 m.src) fr rfl rfl rfl (by simp) rfl (by decide) (fun hg => x_load1 pl3 rfl ((fr.ev rfl).trans (onlyIf_t hg)) (B9.cell 1 rfl)) ?_
 clear fr a; intro a fr
 refine fx_may2 (g := (!((!((entOf E m.line.toNat).busy)) || (decide ((entOf E m.line.toNat).waits < 1)))) && true) (v := .bool (decide ((entOf E m.line.toNat).o ≠ m.src))) fr rfl rfl rfl (by simp) rfl (by decide) (fun hg => x_neq rfl ((fr.ev rfl).trans (onlyIf_t hg)) ((fr.ev rfl).trans (onlyIf_t hg)) rfl) ?_
 clear fr a; intro a fr
 refine fx_may (g := !((!((entOf E m.line.toNat).busy)) || (decide ((entOf E m.line.toNat).waits < 1)))) (v := .bool (decide ((entOf E m.line.toNat).o ≠ m.src))) fr rfl rfl rfl (by simp) rfl (by decide) (fun hg => x_pick_t rfl ((fr.ev rfl).trans (onlyIf_t hg)) ((fr.ev rfl).trans (onlyIf_t (by rw [hg]; rfl)))) ?_
 clear fr a; intro a fr
 refine fx_val (v := .bool (((!((entOf E m.line.toNat).busy)) || (decide ((entOf E m.line.toNat).waits < 1))) || (decide ((entOf E m.line.toNat).o ≠ m.src)))) fr rfl rfl (by decide) (x_pick_or rfl (fr.ev rfl) (fun _ => rfl) (fun hb => ((fr.ev rfl)).trans (onlyIf_t (by simp_all))) rfl) ?_
 clear fr a; intro a fr
 refine fx_val (v := .bool (((!((entOf E m.line.toNat).busy)) || (decide ((entOf E m.line.toNat).waits < 1))) || (decide ((entOf E m.line.toNat).o ≠ m.src)))) fr rfl rfl (by decide) (x_move rfl (fr.ev rfl)) ?_
 clear fr a; intro a fr
 refine fx_may (g := !(((!((entOf E m.line.toNat).busy)) || (decide ((entOf E m.line.toNat).waits < 1))) || (decide ((entOf E m.line.toNat).o ≠ m.src)))) (v := .int .i64 m.kind) fr rfl rfl rfl (by simp) rfl (by decide) (fun hg => x_move rfl (fr.ev rfl)) ?_
 clear fr a; intro a fr
 refine fx_may (g := !(((!((entOf E m.line.toNat).busy)) || (decide ((entOf E m.line.toNat).waits < 1))) || (decide ((entOf E m.line.toNat).o ≠ m.src)))) (v := .bool false) fr rfl rfl rfl (by simp) rfl (by decide) (fun hg => x_eql rfl ((fr.ev rfl).trans (onlyIf_t hg)) rfl (decide_eq_false (by omega))) ?_
 clear fr a; intro a fr
 refine fx_may (g := !(((!((entOf E m.line.toNat).busy)) || (decide ((entOf E m.line.toNat).waits < 1))) || (decide ((entOf E m.line.toNat).o ≠ m.src)))) (v := .bool false) fr rfl rfl rfl (by simp) rfl (by decide) (fun hg => x_move rfl ((fr.ev rfl).trans (onlyIf_t hg))) ?_
 clear fr a; intro a fr
 refine fx_may2 (g := (!(((!((entOf E m.line.toNat).busy)) || (decide ((entOf E m.line.toNat).waits < 1))) || (decide ((entOf E m.line.toNat).o ≠ m.src)))) && false) (v := .pointer (some ⟨b26, 0, none⟩)) fr rfl rfl rfl (by simp) rfl (by decide) (fun hg => x_fieldAddr fo42_0 rfl (fr.ev rfl) rfl) ?_
 clear fr a; intro a fr
 refine fx_may2 (g := (!(((!((entOf E m.line.toNat).busy)) || (decide ((entOf E m.line.toNat).waits < 1))) || (decide ((entOf E m.line.toNat).o ≠ m.src)))) && false) (v := .int .i64 ((entOf E m.line.toNat).o)) fr rfl rfl rfl (by simp) rfl (by decide) (fun hg => x_load1 pl3 rfl ((fr.ev rfl).trans (onlyIf_t hg)) (B29.cell 0 rfl)) ?_
 clear fr a; intro a fr
 refine fx_may2 (g := (!(((!((entOf E m.line.toNat).busy)) || (decide ((entOf E m.line.toNat).waits < 1))) || (decide ((entOf E m.line.toNat).o ≠ m.src)))) && false) (v := .bool (decide (0 ≤ (entOf E m.line.toNat).o))) fr rfl rfl rfl (by simp) rfl (by decide) (fun hg => x_geq rfl ((fr.ev rfl).trans (onlyIf_t hg)) rfl rfl) ?_
 clear fr a; intro a fr
 refine fx_may2 (g := (!(((!((entOf E m.line.toNat).busy)) || (decide ((entOf E m.line.toNat).waits < 1))) || (decide ((entOf E m.line.toNat).o ≠ m.src)))) && false) (v := .bool (decide (0 ≤ (entOf E m.line.toNat).o))) fr rfl rfl rfl (by simp) rfl (by decide) (fun hg => x_move rfl ((fr.ev rfl).trans (onlyIf_t hg))) ?_
 clear fr a; intro a fr
 refine fx_may2 (g := ((!(((!((entOf E m.line.toNat).busy)) || (decide ((entOf E m.line.toNat).waits < 1))) || (decide ((entOf E m.line.toNat).o ≠ m.src)))) && false) && !(decide (0 ≤ (entOf E m.line.toNat).o))) (v := .pointer (some ⟨b6, 1, none⟩)) fr rfl rfl rfl (by simp) rfl (by decide) (fun hg => x_fieldAddr fo36_1 rfl (fr.ev rfl) rfl) ?_
 clear fr a; intro a fr
 refine fx_may2 (g := ((!(((!((entOf E m.line.toNat).busy)) || (decide ((entOf E m.line.toNat).waits < 1))) || (decide ((entOf E m.line.toNat).o ≠ m.src)))) && false) && !(decide (0 ≤ (entOf E m.line.toNat).o))) (v := .int .i64 m.src) fr rfl rfl rfl (by simp) rfl (by decide) (fun hg => x_load1 pl3 rfl ((fr.ev rfl).trans (onlyIf_t hg)) (B9.cell 1 rfl)) ?_
 clear fr a; intro a fr
 refine fx_may2 (g := ((!(((!((entOf E m.line.toNat).busy)) || (decide ((entOf E m.line.toNat).waits < 1))) || (decide ((entOf E m.line.toNat).o ≠ m.src)))) && false) && !(decide (0 ≤ (entOf E m.line.toNat).o))) (v := .pointer (some ⟨b26, 1, none⟩)) fr rfl rfl rfl (by simp) rfl (by decide) (fun hg => x_fieldAddr fo42_1 rfl (fr.ev rfl) rfl) ?_
 clear fr a; intro a fr
 refine fx_may2 (g := ((!(((!((entOf E m.line.toNat).busy)) || (decide ((entOf E m.line.toNat).waits < 1))) || (decide ((entOf E m.line.toNat).o ≠ m.src)))) && false) && !(decide (0 ≤ (entOf E m.line.toNat).o))) (v := .pointer (some ⟨b26, 1 + m.src.toNat, none⟩)) fr rfl rfl rfl (by simp) rfl (by decide) (fun hg => x_indexArr Try.underlying40 sz4 rfl ((fr.ev rfl).trans (onlyIf_t hg)) (((fr.ev rfl).trans (onlyIf_t hg)).trans (int_nat _ m.src (by omega))) (by omega) (by omega)) ?_
 clear fr a; intro a fr
 refine fx_may2 (g := ((!(((!((entOf E m.line.toNat).busy)) || (decide ((entOf E m.line.toNat).waits < 1))) || (decide ((entOf E m.line.toNat).o ≠ m.src)))) && false) && !(decide (0 ≤ (entOf E m.line.toNat).o))) (v := .bool (((entOf E m.line.toNat).sh).get m.src)) fr rfl rfl rfl (by simp) rfl (by decide) (fun hg => x_load1 pl4 rfl ((fr.ev rfl).trans (onlyIf_t hg)) (B29.cell _ (ent_sh _ _ m.src (by omega) (by omega)))) ?_
 clear fr a; intro a fr
 refine fx_may2 (g := ((!(((!((entOf E m.line.toNat).busy)) || (decide ((entOf E m.line.toNat).waits < 1))) || (decide ((entOf E m.line.toNat).o ≠ m.src)))) && false) && !(decide (0 ≤ (entOf E m.line.toNat).o))) (v := .bool (!(((entOf E m.line.toNat).sh).get m.src))) fr rfl rfl rfl (by simp) rfl (by decide) (fun hg => x_not rfl ((fr.ev rfl).trans (onlyIf_t hg)) rfl) ?_
 clear fr a; intro a fr
 refine fx_may2 (g := (!(((!((entOf E m.line.toNat).busy)) || (decide ((entOf E m.line.toNat).waits < 1))) || (decide ((entOf E m.line.toNat).o ≠ m.src)))) && false) (v := .bool ((decide (0 ≤ (entOf E m.line.toNat).o)) || (!(((entOf E m.line.toNat).sh).get m.src)))) fr rfl rfl rfl (by simp) rfl (by decide) (fun hg => x_pick_or rfl ((fr.ev rfl).trans (onlyIf_t hg)) (fun _ => rfl) (fun hb => ((fr.ev rfl)).trans (onlyIf_t (by simp_all))) rfl) ?_
 clear fr a; intro a fr
 refine fx_may2 (g := (!(((!((entOf E m.line.toNat).busy)) || (decide ((entOf E m.line.toNat).waits < 1))) || (decide ((entOf E m.line.toNat).o ≠ m.src)))) && false) (v := .bool ((decide (0 ≤ (entOf E m.line.toNat).o)) || (!(((entOf E m.line.toNat).sh).get m.src)))) fr rfl rfl rfl (by simp) rfl (by decide) (fun hg => x_move rfl ((fr.ev rfl).trans (onlyIf_t hg))) ?_
 clear fr a; intro a fr
 refine fx_may2 (g := ((!(((!((entOf E m.line.toNat).busy)) || (decide ((entOf E m.line.toNat).waits < 1))) || (decide ((entOf E m.line.toNat).o ≠ m.src)))) && false) && !((decide (0 ≤ (entOf E m.line.toNat).o)) || (!(((entOf E m.line.toNat).sh).get m.src)))) (v := .pointer (some ⟨b6, 1, none⟩)) fr rfl rfl rfl (by simp) rfl (by decide) (fun hg => x_fieldAddr fo36_1 rfl (fr.ev rfl) rfl) ?_
 clear fr a; intro a fr
 refine fx_may2 (g := ((!(((!((entOf E m.line.toNat).busy)) || (decide ((entOf E m.line.toNat).waits < 1))) || (decide ((entOf E m.line.toNat).o ≠ m.src)))) && false) && !((decide (0 ≤ (entOf E m.line.toNat).o)) || (!(((entOf E m.line.toNat).sh).get m.src)))) (v := .int .i64 m.src) fr rfl rfl rfl (by simp) rfl (by decide) (fun hg => x_load1 pl3 rfl ((fr.ev rfl).trans (onlyIf_t hg)) (B9.cell 1 rfl)) ?_
 clear fr a; intro a fr
 refine fx_may2 (g := ((!(((!((entOf E m.line.toNat).busy)) || (decide ((entOf E m.line.toNat).waits < 1))) || (decide ((entOf E m.line.toNat).o ≠ m.src)))) && false) && !((decide (0 ≤ (entOf E m.line.toNat).o)) || (!(((entOf E m.line.toNat).sh).get m.src)))) (v := .pointer (some ⟨b26, 6, none⟩)) fr rfl rfl rfl (by simp) rfl (by decide) (fun hg => x_fieldAddr fo42_3 rfl (fr.ev rfl) rfl) ?_
 clear fr a; intro a fr
 refine fx_may2 (g := ((!(((!((entOf E m.line.toNat).busy)) || (decide ((entOf E m.line.toNat).waits < 1))) || (decide ((entOf E m.line.toNat).o ≠ m.src)))) && false) && !((decide (0 ≤ (entOf E m.line.toNat).o)) || (!(((entOf E m.line.toNat).sh).get m.src)))) (v := .int .i64 ((entOf E m.line.toNat).asks)) fr rfl rfl rfl (by simp) rfl (by decide) (fun hg => x_load1 pl3 rfl ((fr.ev rfl).trans (onlyIf_t hg)) (B29.cell 6 rfl)) ?_
 clear fr a; intro a fr
 refine fx_may2 (g := ((!(((!((entOf E m.line.toNat).busy)) || (decide ((entOf E m.line.toNat).waits < 1))) || (decide ((entOf E m.line.toNat).o ≠ m.src)))) && false) && !((decide (0 ≤ (entOf E m.line.toNat).o)) || (!(((entOf E m.line.toNat).sh).get m.src)))) (v := .bool (decide (m.src = (entOf E m.line.toNat).asks))) fr rfl rfl rfl (by simp) rfl (by decide) (fun hg => x_eql rfl ((fr.ev rfl).trans (onlyIf_t hg)) ((fr.ev rfl).trans (onlyIf_t hg)) rfl) ?_
 clear fr a; intro a fr
 refine fx_may2 (g := (!(((!((entOf E m.line.toNat).busy)) || (decide ((entOf E m.line.toNat).waits < 1))) || (decide ((entOf E m.line.toNat).o ≠ m.src)))) && false) (v := .bool (((decide (0 ≤ (entOf E m.line.toNat).o)) || (!(((entOf E m.line.toNat).sh).get m.src))) || (decide (m.src = (entOf E m.line.toNat).asks)))) fr rfl rfl rfl (by simp) rfl (by decide) (fun hg => x_pick_or rfl ((fr.ev rfl).trans (onlyIf_t hg)) (fun _ => rfl) (fun hb => ((fr.ev rfl)).trans (onlyIf_t (by simp_all))) rfl) ?_
 clear fr a; intro a fr
 refine fx_may (g := !(((!((entOf E m.line.toNat).busy)) || (decide ((entOf E m.line.toNat).waits < 1))) || (decide ((entOf E m.line.toNat).o ≠ m.src)))) (v := .bool false) fr rfl rfl rfl (by simp) rfl (by decide) (fun hg => x_pick_f rfl ((fr.ev rfl).trans (onlyIf_t hg)) rfl) ?_
 clear fr a; intro a fr
 refine fx_val (v := .bool ((((!((entOf E m.line.toNat).busy)) || (decide ((entOf E m.line.toNat).waits < 1))) || (decide ((entOf E m.line.toNat).o ≠ m.src))) || false)) fr rfl rfl (by decide) (x_pick_or rfl (fr.ev rfl) (fun _ => rfl) (fun hb => ((fr.ev rfl)).trans (onlyIf_t (by simp_all))) rfl) ?_
 clear fr a; intro a fr
 refine fx_val (v := .bool ((((!((entOf E m.line.toNat).busy)) || (decide ((entOf E m.line.toNat).waits < 1))) || (decide ((entOf E m.line.toNat).o ≠ m.src))) || false)) fr rfl rfl (by decide) (x_move rfl (fr.ev rfl)) ?_
 clear fr a; intro a fr
 refine fx_may (g := !((((!((entOf E m.line.toNat).busy)) || (decide ((entOf E m.line.toNat).waits < 1))) || (decide ((entOf E m.line.toNat).o ≠ m.src))) || false)) (v := .int .i64 m.kind) fr rfl rfl rfl (by simp) rfl (by decide) (fun hg => x_move rfl (fr.ev rfl)) ?_
 clear fr a; intro a fr
 refine fx_may (g := !((((!((entOf E m.line.toNat).busy)) || (decide ((entOf E m.line.toNat).waits < 1))) || (decide ((entOf E m.line.toNat).o ≠ m.src))) || false)) (v := .bool false) fr rfl rfl rfl (by simp) rfl (by decide) (fun hg => x_eql rfl ((fr.ev rfl).trans (onlyIf_t hg)) rfl (decide_eq_false (by omega))) ?_
 clear fr a; intro a fr
 refine fx_may (g := !((((!((entOf E m.line.toNat).busy)) || (decide ((entOf E m.line.toNat).waits < 1))) || (decide ((entOf E m.line.toNat).o ≠ m.src))) || false)) (v := .bool false) fr rfl rfl rfl (by simp) rfl (by decide) (fun hg => x_move rfl ((fr.ev rfl).trans (onlyIf_t hg))) ?_
 clear fr a; intro a fr
 refine fx_may2 (g := (!((((!((entOf E m.line.toNat).busy)) || (decide ((entOf E m.line.toNat).waits < 1))) || (decide ((entOf E m.line.toNat).o ≠ m.src))) || false)) && false) (v := .pointer (some ⟨b26, 9, none⟩)) fr rfl rfl rfl (by simp) rfl (by decide) (fun hg => x_fieldAddr fo42_6 rfl (fr.ev rfl) rfl) ?_
 clear fr a; intro a fr
 refine fx_may2 (g := (!((((!((entOf E m.line.toNat).busy)) || (decide ((entOf E m.line.toNat).waits < 1))) || (decide ((entOf E m.line.toNat).o ≠ m.src))) || false)) && false) (v := .bool ((entOf E m.line.toNat).told)) fr rfl rfl rfl (by simp) rfl (by decide) (fun hg => x_load1 pl4 rfl ((fr.ev rfl).trans (onlyIf_t hg)) (B29.cell 9 rfl)) ?_
 clear fr a; intro a fr
 refine fx_may2 (g := (!((((!((entOf E m.line.toNat).busy)) || (decide ((entOf E m.line.toNat).waits < 1))) || (decide ((entOf E m.line.toNat).o ≠ m.src))) || false)) && false) (v := .bool (!((entOf E m.line.toNat).told))) fr rfl rfl rfl (by simp) rfl (by decide) (fun hg => x_not rfl ((fr.ev rfl).trans (onlyIf_t hg)) rfl) ?_
 clear fr a; intro a fr
 refine fx_may2 (g := (!((((!((entOf E m.line.toNat).busy)) || (decide ((entOf E m.line.toNat).waits < 1))) || (decide ((entOf E m.line.toNat).o ≠ m.src))) || false)) && false) (v := .bool (!((entOf E m.line.toNat).told))) fr rfl rfl rfl (by simp) rfl (by decide) (fun hg => x_move rfl ((fr.ev rfl).trans (onlyIf_t hg))) ?_
 clear fr a; intro a fr
 refine fx_may2 (g := ((!((((!((entOf E m.line.toNat).busy)) || (decide ((entOf E m.line.toNat).waits < 1))) || (decide ((entOf E m.line.toNat).o ≠ m.src))) || false)) && false) && !(!((entOf E m.line.toNat).told))) (v := .pointer (some ⟨b26, 6, none⟩)) fr rfl rfl rfl (by simp) rfl (by decide) (fun hg => x_fieldAddr fo42_3 rfl (fr.ev rfl) rfl) ?_
 clear fr a; intro a fr
 refine fx_may2 (g := ((!((((!((entOf E m.line.toNat).busy)) || (decide ((entOf E m.line.toNat).waits < 1))) || (decide ((entOf E m.line.toNat).o ≠ m.src))) || false)) && false) && !(!((entOf E m.line.toNat).told))) (v := .int .i64 ((entOf E m.line.toNat).asks)) fr rfl rfl rfl (by simp) rfl (by decide) (fun hg => x_load1 pl3 rfl ((fr.ev rfl).trans (onlyIf_t hg)) (B29.cell 6 rfl)) ?_
 clear fr a; intro a fr
 refine fx_may2 (g := ((!((((!((entOf E m.line.toNat).busy)) || (decide ((entOf E m.line.toNat).waits < 1))) || (decide ((entOf E m.line.toNat).o ≠ m.src))) || false)) && false) && !(!((entOf E m.line.toNat).told))) (v := .pointer (some ⟨b6, 1, none⟩)) fr rfl rfl rfl (by simp) rfl (by decide) (fun hg => x_fieldAddr fo36_1 rfl (fr.ev rfl) rfl) ?_
 clear fr a; intro a fr
 refine fx_may2 (g := ((!((((!((entOf E m.line.toNat).busy)) || (decide ((entOf E m.line.toNat).waits < 1))) || (decide ((entOf E m.line.toNat).o ≠ m.src))) || false)) && false) && !(!((entOf E m.line.toNat).told))) (v := .int .i64 m.src) fr rfl rfl rfl (by simp) rfl (by decide) (fun hg => x_load1 pl3 rfl ((fr.ev rfl).trans (onlyIf_t hg)) (B9.cell 1 rfl)) ?_
 clear fr a; intro a fr
 refine fx_may2 (g := ((!((((!((entOf E m.line.toNat).busy)) || (decide ((entOf E m.line.toNat).waits < 1))) || (decide ((entOf E m.line.toNat).o ≠ m.src))) || false)) && false) && !(!((entOf E m.line.toNat).told))) (v := .bool (decide ((entOf E m.line.toNat).asks ≠ m.src))) fr rfl rfl rfl (by simp) rfl (by decide) (fun hg => x_neq rfl ((fr.ev rfl).trans (onlyIf_t hg)) ((fr.ev rfl).trans (onlyIf_t hg)) rfl) ?_
 clear fr a; intro a fr
 refine fx_may2 (g := (!((((!((entOf E m.line.toNat).busy)) || (decide ((entOf E m.line.toNat).waits < 1))) || (decide ((entOf E m.line.toNat).o ≠ m.src))) || false)) && false) (v := .bool ((!((entOf E m.line.toNat).told)) || (decide ((entOf E m.line.toNat).asks ≠ m.src)))) fr rfl rfl rfl (by simp) rfl (by decide) (fun hg => x_pick_or rfl ((fr.ev rfl).trans (onlyIf_t hg)) (fun _ => rfl) (fun hb => ((fr.ev rfl)).trans (onlyIf_t (by simp_all))) rfl) ?_
 clear fr a; intro a fr
 refine fx_may (g := !((((!((entOf E m.line.toNat).busy)) || (decide ((entOf E m.line.toNat).waits < 1))) || (decide ((entOf E m.line.toNat).o ≠ m.src))) || false)) (v := .bool false) fr rfl rfl rfl (by simp) rfl (by decide) (fun hg => x_pick_f rfl ((fr.ev rfl).trans (onlyIf_t hg)) rfl) ?_
 clear fr a; intro a fr
 refine fx_val (v := .bool (((((!((entOf E m.line.toNat).busy)) || (decide ((entOf E m.line.toNat).waits < 1))) || (decide ((entOf E m.line.toNat).o ≠ m.src))) || false) || false)) fr rfl rfl (by decide) (x_pick_or rfl (fr.ev rfl) (fun _ => rfl) (fun hb => ((fr.ev rfl)).trans (onlyIf_t (by simp_all))) rfl) ?_
 clear fr a; intro a fr
 refine wpList_nil ?_
 refine fx_next ?_
 refine fx_cond fr rfl (fun hc33 => ?_) (fun hc33 => ?_)
 ·skip
  have hc33s := hc33
  try simp at hc33s
  refine wp_seq ?_
  refine wp_region_lit ?_
  refine fx_val (v := .agg (#[.slice A bs.length cap, .slice B E.length cb])) fr rfl rfl (by decide) (x_loadS ag28 rfl (fr.ev rfl) rfl B4.range) ?_
  clear fr a; intro a fr
  refine fx_storeS sz28 rfl rfl rfl (fr.ev rfl) (fr.ev rfl) (by simp [Value.oneCell']) B14 rfl rfl fun w34 hO35 hBq => ?_
  replace H := H.only hO35 (ne1P ap_FpR_b11)
  replace B4 := B4.only hO35 (by first | exact ne_b1_b11 | exact ne_b11_b1.symm | (show ¬ b1 = b11; omega))
  replace B9 := B9.only hO35 (by first | exact ne_b6_b11 | exact ne_b11_b6.symm | (show ¬ b6 = b11; omega))
  replace hQ24 := hQ24.only hO35 (Apart.ne1 ap_Q21_b11)
  replace B29 := B29.only hO35 (by first | exact ne_b26_b11 | exact ne_b11_b26.symm | (show ¬ b26 = b11; omega))
  replace hF := hF.loc hO35 (.inr g_b11)
  replace B14 := hBq
  clear hBq
  refine fx_val (v := .slice none 0 0) fr rfl rfl (by decide) (x_assign rfl rfl) ?_
  clear fr a; intro a fr
  refine fx_val (v := .int .i64 220) fr rfl rfl (by decide) (x_assign rfl rfl) ?_
  clear fr a; intro a fr
  refine wpList_nil ?_
  refine fx_next ?_
  refine wp_ret ?_
  refine fx_rt ?_
  refine fx_ret fr [.cell 4 28, .tmp 5, .tmp 6] [.agg (#[.slice A bs.length cap, .slice B E.length cb]), .slice none 0 0, .int .i64 220] rfl ⟨⟨_, rfl, x_loadV ag28 rfl B14.range⟩, rfl, rfl, trivial⟩ rfl ?_
  have hst : strayF (entOf E m.line.toNat) m = true := by rw [stray_11 hk1]; simpa only [Bool.or_false, Bool.false_or] using hc33
  exact ⟨_, rfl, .inl ⟨hst, rfl, hF⟩⟩
 ·skip
  have hc33s := hc33
  try simp at hc33s
  refine wp_skip ?_
  refine fx_next ?_
  refine wp_seq ?_
  refine wp_seq ?_
  refine wp_region_lit ?_
  refine fx_val (v := .int .i64 m.kind) fr rfl rfl (by decide) (x_move rfl (fr.ev rfl)) ?_
  clear fr a; intro a fr
  refine fx_val (v := .bool false) fr rfl rfl (by decide) (x_eql rfl (fr.ev rfl) rfl (decide_eq_false (by omega))) ?_
  clear fr a; intro a fr
  refine wpList_nil ?_
  refine fx_next ?_
  refine fx_cond_f fr rfl ?_
  refine wp_skip ?_
  refine fx_next ?_
  refine wp_seq ?_
  refine wp_seq ?_
  refine wp_region_lit ?_
  refine fx_val (v := .int .i64 m.kind) fr rfl rfl (by decide) (x_move rfl (fr.ev rfl)) ?_
  clear fr a; intro a fr
  refine fx_val (v := .bool true) fr rfl rfl (by decide) (x_eql rfl (fr.ev rfl) rfl (decide_eq_true (by omega))) ?_
  clear fr a; intro a fr
  refine wpList_nil ?_
  refine fx_next ?_
  refine fx_cond_t fr rfl ?_
  refine wp_seq ?_
  refine wp_region_lit ?_
  refine fx_val (v := .agg (#[.slice A bs.length cap, .slice B E.length cb])) fr rfl rfl (by decide) (x_loadS ag28 rfl (fr.ev rfl) rfl B4.range) ?_
  clear fr a; intro a fr
  refine fx_val (v := .int .u32 m.line) fr rfl rfl (by decide) (x_move rfl (fr.ev rfl)) ?_
  clear fr a; intro a fr
  refine fx_val (v := .pointer (some ⟨b6, 4, none⟩)) fr rfl rfl (by decide) (x_fieldAddr fo36_4 rfl (fr.ev rfl) rfl) ?_
  clear fr a; intro a fr
  refine fx_val (v := .agg (bsE.arr m.bs)) fr rfl rfl (by decide) (x_loadE (E := bsE) ag34 rfl rfl (fr.ev rfl) (B9.part (msg_bs _))) ?_
  clear fr a; intro a fr
  refine fx_call fr rfl rfl (by decide) (x_call (vs := [.agg (#[.slice A bs.length cap, .slice B E.length cb]), .int .u32 m.line, .agg (bsE.arr m.bs)]) rfl rfl ⟨(fr.ev rfl), (fr.ev rfl), (fr.ev rfl), trivial⟩ Try.func43 nm43 rfl) (rset_r m.line m.hn m.bs H (by omega) (by omega)) ?_
  clear fr a
  rintro v w41 ⟨A36, cap37, FpR38, rfl, H39, mv40, hN42⟩ a fr
  have ap_FpR38_b1 : ¬ FpR38 b1 := moved_apartP mv40 ap_FpR_b1 B4.lt
  have ap_FpR38_b6 : ¬ FpR38 b6 := moved_apartP mv40 ap_FpR_b6 B9.lt
  have ap_FpR38_b11 : ¬ FpR38 b11 := moved_apartP mv40 ap_FpR_b11 B14.lt
  have ap_FpR38_b26 : ¬ FpR38 b26 := moved_apartP mv40 ap_FpR_b26 B29.lt
  have mF_FpR38 : ∀ g, FpR38 g → FpR g ∨ w.heap.size ≤ g := fun g hg => (mv40 g hg).elim (mF_FpR g) (fun h => .inr (Nat.le_trans hF.size h))
  replace H := H.new hN42
  replace B4 := B4.new hN42
  replace B9 := B9.new hN42
  replace B14 := B14.new hN42
  replace hQ24 := hQ24.new hN42
  replace B29 := B29.new hN42
  replace hF := hF.trNew hN42
  have hsl43 : (setLn bs m.line m.bs).length = bs.length := setLn_length _ _ _
  refine fx_storeS sz28 rfl rfl rfl (fr.ev rfl) (fr.ev rfl) (by simp [Value.oneCell']) B4 rfl rfl fun w44 hO45 hBq => ?_
  replace H := H.only hO45 (ne1P ap_FpR_b1)
  replace B9 := B9.only hO45 (by first | exact ne_b6_b1 | exact ne_b1_b6.symm | (show ¬ b6 = b1; omega))
  replace B14 := B14.only hO45 (by first | exact ne_b11_b1 | exact ne_b1_b11.symm | (show ¬ b11 = b1; omega))
  replace hQ24 := hQ24.only hO45 (Apart.ne1 ap_Q21_b1)
  replace B29 := B29.only hO45 (by first | exact ne_b26_b1 | exact ne_b1_b26.symm | (show ¬ b26 = b1; omega))
  replace H39 := H39.only hO45 (ne1P ap_FpR38_b1)
  replace hF := hF.loc hO45 (.inr g_b1)
  replace B4 := hBq
  clear hBq
  refine wpList_nil ?_
  refine fx_next ?_
  refine wp_seq ?_
  refine wp_region_lit ?_
  refine fx_val (v := .pointer (some ⟨b26, 8, none⟩)) fr rfl rfl (by decide) (x_fieldAddr fo42_5 rfl (fr.ev rfl) rfl) ?_
  clear fr a; intro a fr
  refine fx_store1 sz3 rfl rfl rfl (fr.ev rfl) rfl rfl B29 (show 8 < 11 by decide) (cs' := entA (Ent.mk ((entOf E m.line.toNat).o) ((entOf E m.line.toNat).sh) ((entOf E m.line.toNat).busy) ((entOf E m.line.toNat).asks) ((entOf E m.line.toNat).kind) 0 ((entOf E m.line.toNat).told) ((entOf E m.line.toNat).q)) (.slice Q21 ((entOf E m.line.toNat).q.length) qc22)) rfl fun w46 hO47 hBq => ?_
  replace H := H.only hO47 (ne1P ap_FpR_b26)
  replace B9 := B9.only hO47 (by first | exact ne_b6_b26 | exact ne_b26_b6.symm | (show ¬ b6 = b26; omega))
  replace B14 := B14.only hO47 (by first | exact ne_b11_b26 | exact ne_b26_b11.symm | (show ¬ b11 = b26; omega))
  replace hQ24 := hQ24.only hO47 (Apart.ne1 ap_Q21_b26)
  replace H39 := H39.only hO47 (ne1P ap_FpR38_b26)
  replace B4 := B4.only hO47 (by first | exact ne_b1_b26 | exact ne_b26_b1.symm | (show ¬ b1 = b26; omega))
  replace hF := hF.loc hO47 (.inr g_b26)
  replace B29 := hBq
  clear hBq
  refine wpList_nil ?_
  refine fx_next ?_
  refine wp_seq ?_
  refine wp_region_lit ?_
  refine fx_val (v := .pointer (some ⟨b26, 7, none⟩)) fr rfl rfl (by decide) (x_fieldAddr fo42_4 rfl (fr.ev rfl) rfl) ?_
  clear fr a; intro a fr
  refine fx_val (v := .int .i64 ((entOf E m.line.toNat).kind)) fr rfl rfl (by decide) (x_load1 pl33 rfl (fr.ev rfl) (B29.cell 7 rfl)) ?_
  clear fr a; intro a fr
  refine fx_val (v := .bool (decide ((entOf E m.line.toNat).kind = 1))) fr rfl rfl (by decide) (x_eql rfl (fr.ev rfl) rfl rfl) ?_
  clear fr a; intro a fr
  refine wpList_nil ?_
  refine fx_next ?_
  refine fx_cond fr rfl (fun hc48 => ?_) (fun hc48 => ?_)
  ·skip
   have hc48 := of_decide_eq_true hc48
   refine wp_seq ?_
   refine wp_region_lit ?_
   refine fx_val (v := .agg (entA (Ent.mk ((entOf E m.line.toNat).o) ((entOf E m.line.toNat).sh) ((entOf E m.line.toNat).busy) ((entOf E m.line.toNat).asks) ((entOf E m.line.toNat).kind) 0 ((entOf E m.line.toNat).told) ((entOf E m.line.toNat).q)) (.slice Q21 ((entOf E m.line.toNat).q.length) qc22))) fr rfl rfl (by decide) (x_loadS ag42 rfl (fr.ev rfl) rfl B29.range) ?_
   clear fr a; intro a fr
   refine fx_call fr rfl rfl (by decide) (x_call (vs := [.agg (entA (Ent.mk ((entOf E m.line.toNat).o) ((entOf E m.line.toNat).sh) ((entOf E m.line.toNat).busy) ((entOf E m.line.toNat).asks) ((entOf E m.line.toNat).kind) 0 ((entOf E m.line.toNat).told) ((entOf E m.line.toNat).q)) (.slice Q21 ((entOf E m.line.toNat).q.length) qc22)), .int .i64 (-1)]) rfl rfl ⟨(fr.ev rfl), rfl, trivial⟩ Try.func44 nm44 rfl) (rown_c (Ent.mk ((entOf E m.line.toNat).o) ((entOf E m.line.toNat).sh) ((entOf E m.line.toNat).busy) ((entOf E m.line.toNat).asks) ((entOf E m.line.toNat).kind) 0 ((entOf E m.line.toNat).told) ((entOf E m.line.toNat).q)) Q21 ((entOf E m.line.toNat).q.length) qc22 (-1) _) ?_
   clear fr a
   rintro v w49 ⟨rfl, hN50⟩ a fr
   replace H := H.new hN50
   replace B9 := B9.new hN50
   replace B14 := B14.new hN50
   replace hQ24 := hQ24.new hN50
   replace H39 := H39.new hN50
   replace B4 := B4.new hN50
   replace B29 := B29.new hN50
   replace hF := hF.trNew hN50
   refine fx_storeS sz42 rfl rfl rfl (fr.ev rfl) (fr.ev rfl) (ent_all _ _ _ _) B29 rfl rfl fun w51 hO52 hBq => ?_
   replace H := H.only hO52 (ne1P ap_FpR_b26)
   replace B9 := B9.only hO52 (by first | exact ne_b6_b26 | exact ne_b26_b6.symm | (show ¬ b6 = b26; omega))
   replace B14 := B14.only hO52 (by first | exact ne_b11_b26 | exact ne_b26_b11.symm | (show ¬ b11 = b26; omega))
   replace hQ24 := hQ24.only hO52 (Apart.ne1 ap_Q21_b26)
   replace H39 := H39.only hO52 (ne1P ap_FpR38_b26)
   replace B4 := B4.only hO52 (by first | exact ne_b1_b26 | exact ne_b26_b1.symm | (show ¬ b1 = b26; omega))
   replace hF := hF.loc hO52 (.inr g_b26)
   replace B29 := hBq
   clear hBq
   refine wpList_nil ?_
   refine fx_next ?_
   refine wp_seq ?_
   refine wp_region_lit ?_
   refine fx_val (v := .pointer (some ⟨b6, 1, none⟩)) fr rfl rfl (by decide) (x_fieldAddr fo36_1 rfl (fr.ev rfl) rfl) ?_
   clear fr a; intro a fr
   refine fx_val (v := .int .i64 m.src) fr rfl rfl (by decide) (x_load1 pl3 rfl (fr.ev rfl) (B9.cell 1 rfl)) ?_
   clear fr a; intro a fr
   refine fx_val (v := .pointer (some ⟨b26, 1, none⟩)) fr rfl rfl (by decide) (x_fieldAddr fo42_1 rfl (fr.ev rfl) rfl) ?_
   clear fr a; intro a fr
   refine fx_val (v := .pointer (some ⟨b26, 1 + m.src.toNat, none⟩)) fr rfl rfl (by decide) (x_indexArr Try.underlying40 sz4 rfl (fr.ev rfl) ((fr.ev rfl).trans (int_nat _ m.src (by omega))) (by omega) (by omega)) ?_
   clear fr a; intro a fr
   refine fx_store1 sz4 rfl rfl rfl (fr.ev rfl) rfl rfl B29 (show 1 + m.src.toNat < 11 by omega) (cs' := entA (Ent.mk (-1) (sh0.set m.src true) ((entOf E m.line.toNat).busy) ((entOf E m.line.toNat).asks) ((entOf E m.line.toNat).kind) 0 ((entOf E m.line.toNat).told) ((entOf E m.line.toNat).q)) (.slice Q21 ((entOf E m.line.toNat).q.length) qc22)) (ent_setSh _ _ m.src _ (by omega) (by omega)) fun w53 hO54 hBq => ?_
   replace H := H.only hO54 (ne1P ap_FpR_b26)
   replace B9 := B9.only hO54 (by first | exact ne_b6_b26 | exact ne_b26_b6.symm | (show ¬ b6 = b26; omega))
   replace B14 := B14.only hO54 (by first | exact ne_b11_b26 | exact ne_b26_b11.symm | (show ¬ b11 = b26; omega))
   replace hQ24 := hQ24.only hO54 (Apart.ne1 ap_Q21_b26)
   replace H39 := H39.only hO54 (ne1P ap_FpR38_b26)
   replace B4 := B4.only hO54 (by first | exact ne_b1_b26 | exact ne_b26_b1.symm | (show ¬ b1 = b26; omega))
   replace hF := hF.loc hO54 (.inr g_b26)
   replace B29 := hBq
   clear hBq
   refine wpList_nil ?_
   refine fx_next ?_
   refine wp_seq ?_
   refine wp_region_lit ?_
   refine fx_val (v := .pointer (some ⟨b26, 6, none⟩)) fr rfl rfl (by decide) (x_fieldAddr fo42_3 rfl (fr.ev rfl) rfl) ?_
   clear fr a; intro a fr
   refine fx_val (v := .int .i64 ((entOf E m.line.toNat).asks)) fr rfl rfl (by decide) (x_load1 pl3 rfl (fr.ev rfl) (B29.cell 6 rfl)) ?_
   clear fr a; intro a fr
   refine fx_val (v := .pointer (some ⟨b26, 1, none⟩)) fr rfl rfl (by decide) (x_fieldAddr fo42_1 rfl (fr.ev rfl) rfl) ?_
   clear fr a; intro a fr
   refine fx_val (v := .pointer (some ⟨b26, 1 + ((entOf E m.line.toNat).asks).toNat, none⟩)) fr rfl rfl (by decide) (x_indexArr Try.underlying40 sz4 rfl (fr.ev rfl) ((fr.ev rfl).trans (int_nat _ ((entOf E m.line.toNat).asks) (by omega))) (by omega) (by omega)) ?_
   clear fr a; intro a fr
   refine fx_store1 sz4 rfl rfl rfl (fr.ev rfl) rfl rfl B29 (show 1 + ((entOf E m.line.toNat).asks).toNat < 11 by omega) (cs' := entA (Ent.mk (-1) ((sh0.set m.src true).set ((entOf E m.line.toNat).asks) true) ((entOf E m.line.toNat).busy) ((entOf E m.line.toNat).asks) ((entOf E m.line.toNat).kind) 0 ((entOf E m.line.toNat).told) ((entOf E m.line.toNat).q)) (.slice Q21 ((entOf E m.line.toNat).q.length) qc22)) (ent_setSh _ _ ((entOf E m.line.toNat).asks) _ (by omega) (by omega)) fun w55 hO56 hBq => ?_
   replace H := H.only hO56 (ne1P ap_FpR_b26)
   replace B9 := B9.only hO56 (by first | exact ne_b6_b26 | exact ne_b26_b6.symm | (show ¬ b6 = b26; omega))
   replace B14 := B14.only hO56 (by first | exact ne_b11_b26 | exact ne_b26_b11.symm | (show ¬ b11 = b26; omega))
   replace hQ24 := hQ24.only hO56 (Apart.ne1 ap_Q21_b26)
   replace H39 := H39.only hO56 (ne1P ap_FpR38_b26)
   replace B4 := B4.only hO56 (by first | exact ne_b1_b26 | exact ne_b26_b1.symm | (show ¬ b1 = b26; omega))
   replace hF := hF.loc hO56 (.inr g_b26)
   replace B29 := hBq
   clear hBq
   refine wpList_nil ?_
   refine fx_next ?_
   refine wp_seq ?_
   refine wp_region_lit ?_
   refine fx_val (v := .pointer (some ⟨b26, 9, none⟩)) fr rfl rfl (by decide) (x_fieldAddr fo42_6 rfl (fr.ev rfl) rfl) ?_
   clear fr a; intro a fr
   refine fx_store1 sz4 rfl rfl rfl (fr.ev rfl) rfl rfl B29 (show 9 < 11 by decide) (cs' := entA (Ent.mk (-1) ((sh0.set m.src true).set ((entOf E m.line.toNat).asks) true) ((entOf E m.line.toNat).busy) ((entOf E m.line.toNat).asks) ((entOf E m.line.toNat).kind) 0 true ((entOf E m.line.toNat).q)) (.slice Q21 ((entOf E m.line.toNat).q.length) qc22)) rfl fun w57 hO58 hBq => ?_
   replace H := H.only hO58 (ne1P ap_FpR_b26)
   replace B9 := B9.only hO58 (by first | exact ne_b6_b26 | exact ne_b26_b6.symm | (show ¬ b6 = b26; omega))
   replace B14 := B14.only hO58 (by first | exact ne_b11_b26 | exact ne_b26_b11.symm | (show ¬ b11 = b26; omega))
   replace hQ24 := hQ24.only hO58 (Apart.ne1 ap_Q21_b26)
   replace H39 := H39.only hO58 (ne1P ap_FpR38_b26)
   replace B4 := B4.only hO58 (by first | exact ne_b1_b26 | exact ne_b26_b1.symm | (show ¬ b1 = b26; omega))
   replace hF := hF.loc hO58 (.inr g_b26)
   replace B29 := hBq
   clear hBq
   refine wpList_nil ?_
   refine fx_next ?_
   refine wp_seq ?_
   refine fx_heldT (n := 11) (k := 11) (fun w => RefAt w FpR A cap B cb (HD.mk bs E) X ∧ Blk w b6 36 (msgE.arr m) ∧ View msgE w Q21 qc22 ((entOf E m.line.toNat).q) ∧ RefAt w FpR38 A36 cap37 B cb (HD.mk (setLn bs m.line m.bs) E) X ∧ Blk w b1 28 (#[.slice A36 ((setLn bs m.line m.bs).length) cap37, .slice B E.length cb]) ∧ Blk w b26 42 (entA (Ent.mk (-1) ((sh0.set m.src true).set ((entOf E m.line.toNat).asks) true) ((entOf E m.line.toNat).busy) ((entOf E m.line.toNat).asks) ((entOf E m.line.toNat).kind) 0 true ((entOf E m.line.toNat).q)) (.slice Q21 ((entOf E m.line.toNat).q.length) qc22)) ∧ True) (by kernel_rfl) (by kernel_rfl) rfl ?_
   intro w59 hN60
   replace H := H.new hN60
   replace B9 := B9.new hN60
   replace B14 := B14.new hN60
   replace hQ24 := hQ24.new hN60
   replace H39 := H39.new hN60
   replace B4 := B4.new hN60
   replace B29 := B29.new hN60
   replace hF := hF.trNew hN60
   refine fx_take (i := 0) (v := .agg (#[.slice A36 ((setLn bs m.line m.bs).length) cap37, .slice B E.length cb])) fr rfl (by kernel_rfl) rfl rfl (by decide) (fun _ _ _ h => h) (fun _ ⟨H, B9, hQ24, H39, B4, B29, _⟩ => x_loadS ag28 rfl (fr.ev rfl) rfl B4.range) ⟨H, B9, hQ24, H39, B4, B29, trivial⟩ ?_
   clear fr a; intro a fr
   refine fx_take (i := 1) (v := .int .u32 m.line) fr rfl (by kernel_rfl) rfl rfl (by decide) (fun _ _ _ h => h) (fun _ ⟨H, B9, hQ24, H39, B4, B29, _⟩ => x_move rfl (fr.ev rfl)) ⟨H, B9, hQ24, H39, B4, B29, trivial⟩ ?_
   clear fr a; intro a fr
   refine fx_take (i := 2) (v := .agg (entA (Ent.mk (-1) ((sh0.set m.src true).set ((entOf E m.line.toNat).asks) true) ((entOf E m.line.toNat).busy) ((entOf E m.line.toNat).asks) ((entOf E m.line.toNat).kind) 0 true ((entOf E m.line.toNat).q)) (.slice Q21 ((entOf E m.line.toNat).q.length) qc22))) fr rfl (by kernel_rfl) rfl rfl (by decide) (fun _ _ _ h => h) (fun _ ⟨H, B9, hQ24, H39, B4, B29, _⟩ => x_loadS ag42 rfl (fr.ev rfl) rfl B29.range) ⟨H, B9, hQ24, H39, B4, B29, trivial⟩ ?_
   clear fr a; intro a fr
   refine fx_take (i := 4) (v := .agg (#[.slice A36 ((setLn bs m.line m.bs).length) cap37, .slice B E.length cb])) fr rfl (by kernel_rfl) rfl rfl (by decide) (fun _ _ _ h => h) (fun _ ⟨H, B9, hQ24, H39, B4, B29, _⟩ => x_loadS ag28 rfl (fr.ev rfl) rfl B4.range) ⟨H, B9, hQ24, H39, B4, B29, trivial⟩ ?_
   clear fr a; intro a fr
   refine fx_take (i := 5) (v := .pointer (some ⟨b26, 6, none⟩)) fr rfl (by kernel_rfl) rfl rfl (by decide) (fun _ _ _ h => h) (fun _ ⟨H, B9, hQ24, H39, B4, B29, _⟩ => x_fieldAddr fo42_3 rfl (fr.ev rfl) rfl) ⟨H, B9, hQ24, H39, B4, B29, trivial⟩ ?_
   clear fr a; intro a fr
   refine fx_take (i := 6) (v := .int .i64 ((entOf E m.line.toNat).asks)) fr rfl (by kernel_rfl) rfl rfl (by decide) (fun _ _ _ h => h) (fun _ ⟨H, B9, hQ24, H39, B4, B29, _⟩ => x_load1 pl3 rfl (fr.ev rfl) (B29.cell 6 rfl)) ⟨H, B9, hQ24, H39, B4, B29, trivial⟩ ?_
   clear fr a; intro a fr
   refine fx_take (i := 7) (v := .int .u32 m.line) fr rfl (by kernel_rfl) rfl rfl (by decide) (fun _ _ _ h => h) (fun _ ⟨H, B9, hQ24, H39, B4, B29, _⟩ => x_move rfl (fr.ev rfl)) ⟨H, B9, hQ24, H39, B4, B29, trivial⟩ ?_
   clear fr a; intro a fr
   refine fx_one (i := 3) (by kernel_rfl) (fx_op rfl ?_)
   refine fx_call fr rfl rfl (by decide) (x_call (vs := [.agg (#[.slice A36 ((setLn bs m.line m.bs).length) cap37, .slice B E.length cb]), .int .u32 m.line, .agg (entA (Ent.mk (-1) ((sh0.set m.src true).set ((entOf E m.line.toNat).asks) true) ((entOf E m.line.toNat).busy) ((entOf E m.line.toNat).asks) ((entOf E m.line.toNat).kind) 0 true ((entOf E m.line.toNat).q)) (.slice Q21 ((entOf E m.line.toNat).q.length) qc22))]) rfl rfl ⟨(fr.ev rfl), (fr.ev rfl), (fr.ev rfl), trivial⟩ Try.func40 nm40 rfl) (rwith_r m.line m.hn (Ent.mk (-1) ((sh0.set m.src true).set ((entOf E m.line.toNat).asks) true) ((entOf E m.line.toNat).busy) ((entOf E m.line.toNat).asks) ((entOf E m.line.toNat).kind) 0 true ((entOf E m.line.toNat).q)) Q21 qc22 H39 (by omega) (by omega) hQ24) ?_
   clear fr a
   rintro v w66 ⟨B61, cb62, FpR63, rfl, H64, mv65, hN67⟩ a fr
   have ap_FpR63_b6 : ¬ FpR63 b6 := moved_apartP mv65 (fun h => h.elim ap_FpR38_b6 ap_Q21_b6) B9.lt
   have ap_FpR63_b11 : ¬ FpR63 b11 := moved_apartP mv65 (fun h => h.elim ap_FpR38_b11 ap_Q21_b11) B14.lt
   have ap_FpR63_b1 : ¬ FpR63 b1 := moved_apartP mv65 (fun h => h.elim ap_FpR38_b1 ap_Q21_b1) B4.lt
   have ap_FpR63_b26 : ¬ FpR63 b26 := moved_apartP mv65 (fun h => h.elim ap_FpR38_b26 ap_Q21_b26) B29.lt
   have mF_FpR63 : ∀ g, FpR63 g → FpR g ∨ w.heap.size ≤ g := fun g hg => (mv65 g hg).elim (fun h => h.elim (mF_FpR38 g) (mQ_Q21 g)) (fun h => .inr (Nat.le_trans hF.size h))
   replace H := H.new hN67
   replace B9 := B9.new hN67
   replace B14 := B14.new hN67
   replace hQ24 := hQ24.new hN67
   replace H39 := H39.new hN67
   replace B4 := B4.new hN67
   replace B29 := B29.new hN67
   replace hF := hF.trNew hN67
   have hel68 : (E.set m.line.toNat (Ent.mk (-1) ((sh0.set m.src true).set ((entOf E m.line.toNat).asks) true) ((entOf E m.line.toNat).busy) ((entOf E m.line.toNat).asks) ((entOf E m.line.toNat).kind) 0 true ((entOf E m.line.toNat).q))).length = E.length := List.length_set
   have hxl69 := H64.len
   simp only [List.length_set] at hxl69
   refine wpList_nil ?_
   refine ⟨⟨H, B9, hQ24, H39, B4, B29, trivial⟩, ?_⟩
   refine fx_one (i := 8) (by kernel_rfl) (fx_op rfl ?_)
   refine fx_call fr rfl rfl (by decide) (x_call (vs := [.agg (#[.slice A36 ((setLn bs m.line m.bs).length) cap37, .slice B E.length cb]), .int .i64 8, .int .i64 ((entOf E m.line.toNat).asks), .int .u32 m.line]) rfl rfl ⟨(fr.ev rfl), rfl, (fr.ev rfl), (fr.ev rfl), trivial⟩ Try.func45 nm45 rfl) (rsend_b m.line m.hn 8 ((entOf E m.line.toNat).asks) (bs := setLn bs m.line m.bs) H39.vb (by omega) (by omega) (by omega)) ?_
   clear fr a
   rintro v w70 ⟨rfl, hN71⟩ a fr
   replace H := H.new hN71
   replace B9 := B9.new hN71
   replace B14 := B14.new hN71
   replace hQ24 := hQ24.new hN71
   replace H39 := H39.new hN71
   replace B4 := B4.new hN71
   replace B29 := B29.new hN71
   replace H64 := H64.new hN71
   replace hF := hF.trNew hN71
   refine wpList_nil ?_
   refine ⟨⟨H, B9, hQ24, H39, B4, B29, trivial⟩, ?_⟩
   refine fx_two (i := 9) (j := 10) (by kernel_rfl) (fx_op rfl ?_) (fx_op rfl ?_)
   ·skip
    refine fx_build1 (E := msgE) (p := (mkM 8 4 ((entOf E m.line.toNat).asks) m.line (lineB (setLn bs m.line m.bs) m.line) m.hn)) elMsg (by decide) fr rfl rfl (by decide) rfl (fr.ev rfl) ?_
    clear fr a
    intro A72 w73 hN74 O75 hA76 a fr
    have ap2_FpR_A72 : ∀ k, FpR k → inA A72 k → False := symP (new_apart2P hA76 fun _ hg => H.lt hg)
    have ap_A72_b6 : Apart A72 b6 := new_apart hA76 B9.lt
    have ap_A72_b11 : Apart A72 b11 := new_apart hA76 B14.lt
    have ap2_Q21_A72 : Apart2 Q21 A72 := (new_apart2 hA76 fun _ hg => hQ24.lt hg).symm
    have ap2_FpR38_A72 : ∀ k, FpR38 k → inA A72 k → False := symP (new_apart2P hA76 fun _ hg => H39.lt hg)
    have ap_A72_b1 : Apart A72 b1 := new_apart hA76 B4.lt
    have ap_A72_b26 : Apart A72 b26 := new_apart hA76 B29.lt
    have ap2_FpR63_A72 : ∀ k, FpR63 k → inA A72 k → False := symP (new_apart2P hA76 fun _ hg => H64.lt hg)
    have gA_A72 := gA_new hF hA76
    have gN_A72 := fun g (hg : inA A72 g) => Nat.le_trans hF.size (hA76 g hg)
    replace H := H.new hN74
    replace B9 := B9.new hN74
    replace B14 := B14.new hN74
    replace hQ24 := hQ24.new hN74
    replace H39 := H39.new hN74
    replace B4 := B4.new hN74
    replace B29 := B29.new hN74
    replace H64 := H64.new hN74
    replace hF := hF.trNew hN74
    refine wpList_nil ?_
    refine ⟨⟨H, B9, hQ24, H39, B4, B29, trivial⟩, ?_⟩
    refine fx_one (i := 10) (by kernel_rfl) (fx_op rfl ?_)
    refine fx_storeS sz28 rfl rfl rfl (fr.ev rfl) (fr.ev rfl) (by simp [Value.oneCell']) B14 rfl rfl fun w77 hO78 hBq => ?_
    replace H := H.only hO78 (ne1P ap_FpR_b11)
    replace B9 := B9.only hO78 (by first | exact ne_b6_b11 | exact ne_b11_b6.symm | (show ¬ b6 = b11; omega))
    replace hQ24 := hQ24.only hO78 (Apart.ne1 ap_Q21_b11)
    replace H39 := H39.only hO78 (ne1P ap_FpR38_b11)
    replace B4 := B4.only hO78 (by first | exact ne_b1_b11 | exact ne_b11_b1.symm | (show ¬ b1 = b11; omega))
    replace B29 := B29.only hO78 (by first | exact ne_b26_b11 | exact ne_b11_b26.symm | (show ¬ b26 = b11; omega))
    replace H64 := H64.only hO78 (ne1P ap_FpR63_b11)
    replace O75 := O75.only hO78 (Apart.ne1 ap_A72_b11)
    replace hF := hF.loc hO78 (.inr g_b11)
    replace B14 := hBq
    clear hBq
    refine wpList_nil ?_
    refine ⟨⟨H, B9, hQ24, H39, B4, B29, trivial⟩, ?_⟩
    refine fx_hdone (by kernel_rfl) ?_
    refine fx_tail ?_
    refine fx_val (v := .slice A72 1 1) fr rfl rfl (by decide) (x_assign rfl (fr.ev rfl)) ?_
    clear fr a; intro a fr
    refine fx_val (v := .int .i64 0) fr rfl rfl (by decide) (x_assign rfl rfl) ?_
    clear fr a; intro a fr
    refine wpList_nil ?_
    refine fx_next ?_
    refine wp_ret ?_
    refine fx_rt ?_
    refine fx_ret fr [.cell 4 28, .tmp 5, .tmp 6] [.agg (#[.slice A36 ((setLn bs m.line m.bs).length) cap37, .slice B61 ((E.set m.line.toNat (Ent.mk (-1) ((sh0.set m.src true).set ((entOf E m.line.toNat).asks) true) ((entOf E m.line.toNat).busy) ((entOf E m.line.toNat).asks) ((entOf E m.line.toNat).kind) 0 true ((entOf E m.line.toNat).q))).length) cb62]), .slice A72 1 1, .int .i64 0] rfl ⟨⟨_, rfl, x_loadV ag28 rfl B14.range⟩, rfl, rfl, trivial⟩ rfl ?_
    have hst : strayF (entOf E m.line.toNat) m = false := by rw [stray_11 hk1]; simpa only [Bool.or_false, Bool.false_or] using hc33
    rw [other_b1 hk1 hc48]
    exact ⟨_, rfl, .inr ⟨hst, A36, cap37, B61, cb62, FpR63, A72, 1, rfl, ⟨_, H64⟩, O75, mF_FpR63, gN_A72, ap2_FpR63_A72, hF⟩⟩
   ·skip
    refine fx_storeS sz28 rfl rfl rfl (fr.ev rfl) (fr.ev rfl) (by simp [Value.oneCell']) B14 rfl rfl fun w79 hO80 hBq => ?_
    replace H := H.only hO80 (ne1P ap_FpR_b11)
    replace B9 := B9.only hO80 (by first | exact ne_b6_b11 | exact ne_b11_b6.symm | (show ¬ b6 = b11; omega))
    replace hQ24 := hQ24.only hO80 (Apart.ne1 ap_Q21_b11)
    replace H39 := H39.only hO80 (ne1P ap_FpR38_b11)
    replace B4 := B4.only hO80 (by first | exact ne_b1_b11 | exact ne_b11_b1.symm | (show ¬ b1 = b11; omega))
    replace B29 := B29.only hO80 (by first | exact ne_b26_b11 | exact ne_b11_b26.symm | (show ¬ b26 = b11; omega))
    replace H64 := H64.only hO80 (ne1P ap_FpR63_b11)
    replace hF := hF.loc hO80 (.inr g_b11)
    replace B14 := hBq
    clear hBq
    refine wpList_nil ?_
    refine ⟨⟨H, B9, hQ24, H39, B4, B29, trivial⟩, ?_⟩
    refine fx_one (i := 9) (by kernel_rfl) (fx_op rfl ?_)
    refine fx_build1 (E := msgE) (p := (mkM 8 4 ((entOf E m.line.toNat).asks) m.line (lineB (setLn bs m.line m.bs) m.line) m.hn)) elMsg (by decide) fr rfl rfl (by decide) rfl (fr.ev rfl) ?_
    clear fr a
    intro A81 w82 hN83 O84 hA85 a fr
    have ap2_FpR_A81 : ∀ k, FpR k → inA A81 k → False := symP (new_apart2P hA85 fun _ hg => H.lt hg)
    have ap_A81_b6 : Apart A81 b6 := new_apart hA85 B9.lt
    have ap2_Q21_A81 : Apart2 Q21 A81 := (new_apart2 hA85 fun _ hg => hQ24.lt hg).symm
    have ap2_FpR38_A81 : ∀ k, FpR38 k → inA A81 k → False := symP (new_apart2P hA85 fun _ hg => H39.lt hg)
    have ap_A81_b1 : Apart A81 b1 := new_apart hA85 B4.lt
    have ap_A81_b26 : Apart A81 b26 := new_apart hA85 B29.lt
    have ap2_FpR63_A81 : ∀ k, FpR63 k → inA A81 k → False := symP (new_apart2P hA85 fun _ hg => H64.lt hg)
    have ap_A81_b11 : Apart A81 b11 := new_apart hA85 B14.lt
    have gA_A81 := gA_new hF hA85
    have gN_A81 := fun g (hg : inA A81 g) => Nat.le_trans hF.size (hA85 g hg)
    replace H := H.new hN83
    replace B9 := B9.new hN83
    replace hQ24 := hQ24.new hN83
    replace H39 := H39.new hN83
    replace B4 := B4.new hN83
    replace B29 := B29.new hN83
    replace H64 := H64.new hN83
    replace B14 := B14.new hN83
    replace hF := hF.trNew hN83
    refine wpList_nil ?_
    refine ⟨⟨H, B9, hQ24, H39, B4, B29, trivial⟩, ?_⟩
    refine fx_hdone (by kernel_rfl) ?_
    refine fx_tail ?_
    refine fx_val (v := .slice A81 1 1) fr rfl rfl (by decide) (x_assign rfl (fr.ev rfl)) ?_
    clear fr a; intro a fr
    refine fx_val (v := .int .i64 0) fr rfl rfl (by decide) (x_assign rfl rfl) ?_
    clear fr a; intro a fr
    refine wpList_nil ?_
    refine fx_next ?_
    refine wp_ret ?_
    refine fx_rt ?_
    refine fx_ret fr [.cell 4 28, .tmp 5, .tmp 6] [.agg (#[.slice A36 ((setLn bs m.line m.bs).length) cap37, .slice B61 ((E.set m.line.toNat (Ent.mk (-1) ((sh0.set m.src true).set ((entOf E m.line.toNat).asks) true) ((entOf E m.line.toNat).busy) ((entOf E m.line.toNat).asks) ((entOf E m.line.toNat).kind) 0 true ((entOf E m.line.toNat).q))).length) cb62]), .slice A81 1 1, .int .i64 0] rfl ⟨⟨_, rfl, x_loadV ag28 rfl B14.range⟩, rfl, rfl, trivial⟩ rfl ?_
    have hst : strayF (entOf E m.line.toNat) m = false := by rw [stray_11 hk1]; simpa only [Bool.or_false, Bool.false_or] using hc33
    rw [other_b1 hk1 hc48]
    exact ⟨_, rfl, .inr ⟨hst, A36, cap37, B61, cb62, FpR63, A81, 1, rfl, ⟨_, H64⟩, O84, mF_FpR63, gN_A81, ap2_FpR63_A81, hF⟩⟩
  ·skip
   have hc48 := of_decide_eq_false hc48
   refine wp_skip ?_
   refine fx_next ?_
   refine wp_seq ?_
   refine wp_seq ?_
   refine wp_region_lit ?_
   refine fx_val (v := .int .i64 m.kind) fr rfl rfl (by decide) (x_move rfl (fr.ev rfl)) ?_
   clear fr a; intro a fr
   refine fx_val (v := .bool false) fr rfl rfl (by decide) (x_eql rfl (fr.ev rfl) rfl (decide_eq_false (by omega))) ?_
   clear fr a; intro a fr
   refine wpList_nil ?_
   refine fx_next ?_
   refine fx_cond_f fr rfl ?_
   refine wp_skip ?_
   refine fx_next ?_
   refine wp_seq ?_
   refine wp_region_lit ?_
   refine fx_val (v := .agg (entA (Ent.mk ((entOf E m.line.toNat).o) ((entOf E m.line.toNat).sh) ((entOf E m.line.toNat).busy) ((entOf E m.line.toNat).asks) ((entOf E m.line.toNat).kind) 0 ((entOf E m.line.toNat).told) ((entOf E m.line.toNat).q)) (.slice Q21 ((entOf E m.line.toNat).q.length) qc22))) fr rfl rfl (by decide) (x_loadS ag42 rfl (fr.ev rfl) rfl B29.range) ?_
   clear fr a; intro a fr
   refine fx_val (v := .pointer (some ⟨b26, 6, none⟩)) fr rfl rfl (by decide) (x_fieldAddr fo42_3 rfl (fr.ev rfl) rfl) ?_
   clear fr a; intro a fr
   refine fx_val (v := .int .i64 ((entOf E m.line.toNat).asks)) fr rfl rfl (by decide) (x_load1 pl3 rfl (fr.ev rfl) (B29.cell 6 rfl)) ?_
   clear fr a; intro a fr
   refine fx_call fr rfl rfl (by decide) (x_call (vs := [.agg (entA (Ent.mk ((entOf E m.line.toNat).o) ((entOf E m.line.toNat).sh) ((entOf E m.line.toNat).busy) ((entOf E m.line.toNat).asks) ((entOf E m.line.toNat).kind) 0 ((entOf E m.line.toNat).told) ((entOf E m.line.toNat).q)) (.slice Q21 ((entOf E m.line.toNat).q.length) qc22)), .int .i64 ((entOf E m.line.toNat).asks)]) rfl rfl ⟨(fr.ev rfl), (fr.ev rfl), trivial⟩ Try.func44 nm44 rfl) (rown_c (Ent.mk ((entOf E m.line.toNat).o) ((entOf E m.line.toNat).sh) ((entOf E m.line.toNat).busy) ((entOf E m.line.toNat).asks) ((entOf E m.line.toNat).kind) 0 ((entOf E m.line.toNat).told) ((entOf E m.line.toNat).q)) Q21 ((entOf E m.line.toNat).q.length) qc22 ((entOf E m.line.toNat).asks) _) ?_
   clear fr a
   rintro v w86 ⟨rfl, hN87⟩ a fr
   replace H := H.new hN87
   replace B9 := B9.new hN87
   replace B14 := B14.new hN87
   replace hQ24 := hQ24.new hN87
   replace H39 := H39.new hN87
   replace B4 := B4.new hN87
   replace B29 := B29.new hN87
   replace hF := hF.trNew hN87
   refine fx_storeS sz42 rfl rfl rfl (fr.ev rfl) (fr.ev rfl) (ent_all _ _ _ _) B29 rfl rfl fun w88 hO89 hBq => ?_
   replace H := H.only hO89 (ne1P ap_FpR_b26)
   replace B9 := B9.only hO89 (by first | exact ne_b6_b26 | exact ne_b26_b6.symm | (show ¬ b6 = b26; omega))
   replace B14 := B14.only hO89 (by first | exact ne_b11_b26 | exact ne_b26_b11.symm | (show ¬ b11 = b26; omega))
   replace hQ24 := hQ24.only hO89 (Apart.ne1 ap_Q21_b26)
   replace H39 := H39.only hO89 (ne1P ap_FpR38_b26)
   replace B4 := B4.only hO89 (by first | exact ne_b1_b26 | exact ne_b26_b1.symm | (show ¬ b1 = b26; omega))
   replace hF := hF.loc hO89 (.inr g_b26)
   replace B29 := hBq
   clear hBq
   refine wpList_nil ?_
   refine fx_next ?_
   refine wp_seq ?_
   refine wp_region_lit ?_
   refine fx_val (v := .pointer (some ⟨b26, 9, none⟩)) fr rfl rfl (by decide) (x_fieldAddr fo42_6 rfl (fr.ev rfl) rfl) ?_
   clear fr a; intro a fr
   refine fx_store1 sz4 rfl rfl rfl (fr.ev rfl) rfl rfl B29 (show 9 < 11 by decide) (cs' := entA (Ent.mk ((entOf E m.line.toNat).asks) sh0 ((entOf E m.line.toNat).busy) ((entOf E m.line.toNat).asks) ((entOf E m.line.toNat).kind) 0 true ((entOf E m.line.toNat).q)) (.slice Q21 ((entOf E m.line.toNat).q.length) qc22)) rfl fun w90 hO91 hBq => ?_
   replace H := H.only hO91 (ne1P ap_FpR_b26)
   replace B9 := B9.only hO91 (by first | exact ne_b6_b26 | exact ne_b26_b6.symm | (show ¬ b6 = b26; omega))
   replace B14 := B14.only hO91 (by first | exact ne_b11_b26 | exact ne_b26_b11.symm | (show ¬ b11 = b26; omega))
   replace hQ24 := hQ24.only hO91 (Apart.ne1 ap_Q21_b26)
   replace H39 := H39.only hO91 (ne1P ap_FpR38_b26)
   replace B4 := B4.only hO91 (by first | exact ne_b1_b26 | exact ne_b26_b1.symm | (show ¬ b1 = b26; omega))
   replace hF := hF.loc hO91 (.inr g_b26)
   replace B29 := hBq
   clear hBq
   refine wpList_nil ?_
   refine fx_next ?_
   refine wp_seq ?_
   refine fx_heldT (n := 11) (k := 11) (fun w => RefAt w FpR A cap B cb (HD.mk bs E) X ∧ Blk w b6 36 (msgE.arr m) ∧ View msgE w Q21 qc22 ((entOf E m.line.toNat).q) ∧ RefAt w FpR38 A36 cap37 B cb (HD.mk (setLn bs m.line m.bs) E) X ∧ Blk w b1 28 (#[.slice A36 ((setLn bs m.line m.bs).length) cap37, .slice B E.length cb]) ∧ Blk w b26 42 (entA (Ent.mk ((entOf E m.line.toNat).asks) sh0 ((entOf E m.line.toNat).busy) ((entOf E m.line.toNat).asks) ((entOf E m.line.toNat).kind) 0 true ((entOf E m.line.toNat).q)) (.slice Q21 ((entOf E m.line.toNat).q.length) qc22)) ∧ True) (by kernel_rfl) (by kernel_rfl) rfl ?_
   intro w92 hN93
   replace H := H.new hN93
   replace B9 := B9.new hN93
   replace B14 := B14.new hN93
   replace hQ24 := hQ24.new hN93
   replace H39 := H39.new hN93
   replace B4 := B4.new hN93
   replace B29 := B29.new hN93
   replace hF := hF.trNew hN93
   refine fx_take (i := 0) (v := .agg (#[.slice A36 ((setLn bs m.line m.bs).length) cap37, .slice B E.length cb])) fr rfl (by kernel_rfl) rfl rfl (by decide) (fun _ _ _ h => h) (fun _ ⟨H, B9, hQ24, H39, B4, B29, _⟩ => x_loadS ag28 rfl (fr.ev rfl) rfl B4.range) ⟨H, B9, hQ24, H39, B4, B29, trivial⟩ ?_
   clear fr a; intro a fr
   refine fx_take (i := 1) (v := .int .u32 m.line) fr rfl (by kernel_rfl) rfl rfl (by decide) (fun _ _ _ h => h) (fun _ ⟨H, B9, hQ24, H39, B4, B29, _⟩ => x_move rfl (fr.ev rfl)) ⟨H, B9, hQ24, H39, B4, B29, trivial⟩ ?_
   clear fr a; intro a fr
   refine fx_take (i := 2) (v := .agg (entA (Ent.mk ((entOf E m.line.toNat).asks) sh0 ((entOf E m.line.toNat).busy) ((entOf E m.line.toNat).asks) ((entOf E m.line.toNat).kind) 0 true ((entOf E m.line.toNat).q)) (.slice Q21 ((entOf E m.line.toNat).q.length) qc22))) fr rfl (by kernel_rfl) rfl rfl (by decide) (fun _ _ _ h => h) (fun _ ⟨H, B9, hQ24, H39, B4, B29, _⟩ => x_loadS ag42 rfl (fr.ev rfl) rfl B29.range) ⟨H, B9, hQ24, H39, B4, B29, trivial⟩ ?_
   clear fr a; intro a fr
   refine fx_take (i := 4) (v := .agg (#[.slice A36 ((setLn bs m.line m.bs).length) cap37, .slice B E.length cb])) fr rfl (by kernel_rfl) rfl rfl (by decide) (fun _ _ _ h => h) (fun _ ⟨H, B9, hQ24, H39, B4, B29, _⟩ => x_loadS ag28 rfl (fr.ev rfl) rfl B4.range) ⟨H, B9, hQ24, H39, B4, B29, trivial⟩ ?_
   clear fr a; intro a fr
   refine fx_take (i := 5) (v := .pointer (some ⟨b26, 6, none⟩)) fr rfl (by kernel_rfl) rfl rfl (by decide) (fun _ _ _ h => h) (fun _ ⟨H, B9, hQ24, H39, B4, B29, _⟩ => x_fieldAddr fo42_3 rfl (fr.ev rfl) rfl) ⟨H, B9, hQ24, H39, B4, B29, trivial⟩ ?_
   clear fr a; intro a fr
   refine fx_take (i := 6) (v := .int .i64 ((entOf E m.line.toNat).asks)) fr rfl (by kernel_rfl) rfl rfl (by decide) (fun _ _ _ h => h) (fun _ ⟨H, B9, hQ24, H39, B4, B29, _⟩ => x_load1 pl3 rfl (fr.ev rfl) (B29.cell 6 rfl)) ⟨H, B9, hQ24, H39, B4, B29, trivial⟩ ?_
   clear fr a; intro a fr
   refine fx_take (i := 7) (v := .int .u32 m.line) fr rfl (by kernel_rfl) rfl rfl (by decide) (fun _ _ _ h => h) (fun _ ⟨H, B9, hQ24, H39, B4, B29, _⟩ => x_move rfl (fr.ev rfl)) ⟨H, B9, hQ24, H39, B4, B29, trivial⟩ ?_
   clear fr a; intro a fr
   refine fx_one (i := 3) (by kernel_rfl) (fx_op rfl ?_)
   refine fx_call fr rfl rfl (by decide) (x_call (vs := [.agg (#[.slice A36 ((setLn bs m.line m.bs).length) cap37, .slice B E.length cb]), .int .u32 m.line, .agg (entA (Ent.mk ((entOf E m.line.toNat).asks) sh0 ((entOf E m.line.toNat).busy) ((entOf E m.line.toNat).asks) ((entOf E m.line.toNat).kind) 0 true ((entOf E m.line.toNat).q)) (.slice Q21 ((entOf E m.line.toNat).q.length) qc22))]) rfl rfl ⟨(fr.ev rfl), (fr.ev rfl), (fr.ev rfl), trivial⟩ Try.func40 nm40 rfl) (rwith_r m.line m.hn (Ent.mk ((entOf E m.line.toNat).asks) sh0 ((entOf E m.line.toNat).busy) ((entOf E m.line.toNat).asks) ((entOf E m.line.toNat).kind) 0 true ((entOf E m.line.toNat).q)) Q21 qc22 H39 (by omega) (by omega) hQ24) ?_
   clear fr a
   rintro v w99 ⟨B94, cb95, FpR96, rfl, H97, mv98, hN100⟩ a fr
   have ap_FpR96_b6 : ¬ FpR96 b6 := moved_apartP mv98 (fun h => h.elim ap_FpR38_b6 ap_Q21_b6) B9.lt
   have ap_FpR96_b11 : ¬ FpR96 b11 := moved_apartP mv98 (fun h => h.elim ap_FpR38_b11 ap_Q21_b11) B14.lt
   have ap_FpR96_b1 : ¬ FpR96 b1 := moved_apartP mv98 (fun h => h.elim ap_FpR38_b1 ap_Q21_b1) B4.lt
   have ap_FpR96_b26 : ¬ FpR96 b26 := moved_apartP mv98 (fun h => h.elim ap_FpR38_b26 ap_Q21_b26) B29.lt
   have mF_FpR96 : ∀ g, FpR96 g → FpR g ∨ w.heap.size ≤ g := fun g hg => (mv98 g hg).elim (fun h => h.elim (mF_FpR38 g) (mQ_Q21 g)) (fun h => .inr (Nat.le_trans hF.size h))
   replace H := H.new hN100
   replace B9 := B9.new hN100
   replace B14 := B14.new hN100
   replace hQ24 := hQ24.new hN100
   replace H39 := H39.new hN100
   replace B4 := B4.new hN100
   replace B29 := B29.new hN100
   replace hF := hF.trNew hN100
   have hel101 : (E.set m.line.toNat (Ent.mk ((entOf E m.line.toNat).asks) sh0 ((entOf E m.line.toNat).busy) ((entOf E m.line.toNat).asks) ((entOf E m.line.toNat).kind) 0 true ((entOf E m.line.toNat).q))).length = E.length := List.length_set
   have hxl102 := H97.len
   simp only [List.length_set] at hxl102
   refine wpList_nil ?_
   refine ⟨⟨H, B9, hQ24, H39, B4, B29, trivial⟩, ?_⟩
   refine fx_one (i := 8) (by kernel_rfl) (fx_op rfl ?_)
   refine fx_call fr rfl rfl (by decide) (x_call (vs := [.agg (#[.slice A36 ((setLn bs m.line m.bs).length) cap37, .slice B E.length cb]), .int .i64 10, .int .i64 ((entOf E m.line.toNat).asks), .int .u32 m.line]) rfl rfl ⟨(fr.ev rfl), rfl, (fr.ev rfl), (fr.ev rfl), trivial⟩ Try.func45 nm45 rfl) (rsend_b m.line m.hn 10 ((entOf E m.line.toNat).asks) (bs := setLn bs m.line m.bs) H39.vb (by omega) (by omega) (by omega)) ?_
   clear fr a
   rintro v w103 ⟨rfl, hN104⟩ a fr
   replace H := H.new hN104
   replace B9 := B9.new hN104
   replace B14 := B14.new hN104
   replace hQ24 := hQ24.new hN104
   replace H39 := H39.new hN104
   replace B4 := B4.new hN104
   replace B29 := B29.new hN104
   replace H97 := H97.new hN104
   replace hF := hF.trNew hN104
   refine wpList_nil ?_
   refine ⟨⟨H, B9, hQ24, H39, B4, B29, trivial⟩, ?_⟩
   refine fx_two (i := 9) (j := 10) (by kernel_rfl) (fx_op rfl ?_) (fx_op rfl ?_)
   ·skip
    refine fx_build1 (E := msgE) (p := (mkM 10 4 ((entOf E m.line.toNat).asks) m.line (lineB (setLn bs m.line m.bs) m.line) m.hn)) elMsg (by decide) fr rfl rfl (by decide) rfl (fr.ev rfl) ?_
    clear fr a
    intro A105 w106 hN107 O108 hA109 a fr
    have ap2_FpR_A105 : ∀ k, FpR k → inA A105 k → False := symP (new_apart2P hA109 fun _ hg => H.lt hg)
    have ap_A105_b6 : Apart A105 b6 := new_apart hA109 B9.lt
    have ap_A105_b11 : Apart A105 b11 := new_apart hA109 B14.lt
    have ap2_Q21_A105 : Apart2 Q21 A105 := (new_apart2 hA109 fun _ hg => hQ24.lt hg).symm
    have ap2_FpR38_A105 : ∀ k, FpR38 k → inA A105 k → False := symP (new_apart2P hA109 fun _ hg => H39.lt hg)
    have ap_A105_b1 : Apart A105 b1 := new_apart hA109 B4.lt
    have ap_A105_b26 : Apart A105 b26 := new_apart hA109 B29.lt
    have ap2_FpR96_A105 : ∀ k, FpR96 k → inA A105 k → False := symP (new_apart2P hA109 fun _ hg => H97.lt hg)
    have gA_A105 := gA_new hF hA109
    have gN_A105 := fun g (hg : inA A105 g) => Nat.le_trans hF.size (hA109 g hg)
    replace H := H.new hN107
    replace B9 := B9.new hN107
    replace B14 := B14.new hN107
    replace hQ24 := hQ24.new hN107
    replace H39 := H39.new hN107
    replace B4 := B4.new hN107
    replace B29 := B29.new hN107
    replace H97 := H97.new hN107
    replace hF := hF.trNew hN107
    refine wpList_nil ?_
    refine ⟨⟨H, B9, hQ24, H39, B4, B29, trivial⟩, ?_⟩
    refine fx_one (i := 10) (by kernel_rfl) (fx_op rfl ?_)
    refine fx_storeS sz28 rfl rfl rfl (fr.ev rfl) (fr.ev rfl) (by simp [Value.oneCell']) B14 rfl rfl fun w110 hO111 hBq => ?_
    replace H := H.only hO111 (ne1P ap_FpR_b11)
    replace B9 := B9.only hO111 (by first | exact ne_b6_b11 | exact ne_b11_b6.symm | (show ¬ b6 = b11; omega))
    replace hQ24 := hQ24.only hO111 (Apart.ne1 ap_Q21_b11)
    replace H39 := H39.only hO111 (ne1P ap_FpR38_b11)
    replace B4 := B4.only hO111 (by first | exact ne_b1_b11 | exact ne_b11_b1.symm | (show ¬ b1 = b11; omega))
    replace B29 := B29.only hO111 (by first | exact ne_b26_b11 | exact ne_b11_b26.symm | (show ¬ b26 = b11; omega))
    replace H97 := H97.only hO111 (ne1P ap_FpR96_b11)
    replace O108 := O108.only hO111 (Apart.ne1 ap_A105_b11)
    replace hF := hF.loc hO111 (.inr g_b11)
    replace B14 := hBq
    clear hBq
    refine wpList_nil ?_
    refine ⟨⟨H, B9, hQ24, H39, B4, B29, trivial⟩, ?_⟩
    refine fx_hdone (by kernel_rfl) ?_
    refine fx_tail ?_
    refine fx_val (v := .slice A105 1 1) fr rfl rfl (by decide) (x_assign rfl (fr.ev rfl)) ?_
    clear fr a; intro a fr
    refine fx_val (v := .int .i64 0) fr rfl rfl (by decide) (x_assign rfl rfl) ?_
    clear fr a; intro a fr
    refine wpList_nil ?_
    refine fx_next ?_
    refine wp_ret ?_
    refine fx_ret fr [.cell 4 28, .tmp 5, .tmp 6] [.agg (#[.slice A36 ((setLn bs m.line m.bs).length) cap37, .slice B94 ((E.set m.line.toNat (Ent.mk ((entOf E m.line.toNat).asks) sh0 ((entOf E m.line.toNat).busy) ((entOf E m.line.toNat).asks) ((entOf E m.line.toNat).kind) 0 true ((entOf E m.line.toNat).q))).length) cb95]), .slice A105 1 1, .int .i64 0] rfl ⟨⟨_, rfl, x_loadV ag28 rfl B14.range⟩, rfl, rfl, trivial⟩ rfl ?_
    have hst : strayF (entOf E m.line.toNat) m = false := by rw [stray_11 hk1]; simpa only [Bool.or_false, Bool.false_or] using hc33
    rw [other_b2 hk1 hc48]
    exact ⟨_, rfl, .inr ⟨hst, A36, cap37, B94, cb95, FpR96, A105, 1, rfl, ⟨_, H97⟩, O108, mF_FpR96, gN_A105, ap2_FpR96_A105, hF⟩⟩
   ·skip
    refine fx_storeS sz28 rfl rfl rfl (fr.ev rfl) (fr.ev rfl) (by simp [Value.oneCell']) B14 rfl rfl fun w112 hO113 hBq => ?_
    replace H := H.only hO113 (ne1P ap_FpR_b11)
    replace B9 := B9.only hO113 (by first | exact ne_b6_b11 | exact ne_b11_b6.symm | (show ¬ b6 = b11; omega))
    replace hQ24 := hQ24.only hO113 (Apart.ne1 ap_Q21_b11)
    replace H39 := H39.only hO113 (ne1P ap_FpR38_b11)
    replace B4 := B4.only hO113 (by first | exact ne_b1_b11 | exact ne_b11_b1.symm | (show ¬ b1 = b11; omega))
    replace B29 := B29.only hO113 (by first | exact ne_b26_b11 | exact ne_b11_b26.symm | (show ¬ b26 = b11; omega))
    replace H97 := H97.only hO113 (ne1P ap_FpR96_b11)
    replace hF := hF.loc hO113 (.inr g_b11)
    replace B14 := hBq
    clear hBq
    refine wpList_nil ?_
    refine ⟨⟨H, B9, hQ24, H39, B4, B29, trivial⟩, ?_⟩
    refine fx_one (i := 9) (by kernel_rfl) (fx_op rfl ?_)
    refine fx_build1 (E := msgE) (p := (mkM 10 4 ((entOf E m.line.toNat).asks) m.line (lineB (setLn bs m.line m.bs) m.line) m.hn)) elMsg (by decide) fr rfl rfl (by decide) rfl (fr.ev rfl) ?_
    clear fr a
    intro A114 w115 hN116 O117 hA118 a fr
    have ap2_FpR_A114 : ∀ k, FpR k → inA A114 k → False := symP (new_apart2P hA118 fun _ hg => H.lt hg)
    have ap_A114_b6 : Apart A114 b6 := new_apart hA118 B9.lt
    have ap2_Q21_A114 : Apart2 Q21 A114 := (new_apart2 hA118 fun _ hg => hQ24.lt hg).symm
    have ap2_FpR38_A114 : ∀ k, FpR38 k → inA A114 k → False := symP (new_apart2P hA118 fun _ hg => H39.lt hg)
    have ap_A114_b1 : Apart A114 b1 := new_apart hA118 B4.lt
    have ap_A114_b26 : Apart A114 b26 := new_apart hA118 B29.lt
    have ap2_FpR96_A114 : ∀ k, FpR96 k → inA A114 k → False := symP (new_apart2P hA118 fun _ hg => H97.lt hg)
    have ap_A114_b11 : Apart A114 b11 := new_apart hA118 B14.lt
    have gA_A114 := gA_new hF hA118
    have gN_A114 := fun g (hg : inA A114 g) => Nat.le_trans hF.size (hA118 g hg)
    replace H := H.new hN116
    replace B9 := B9.new hN116
    replace hQ24 := hQ24.new hN116
    replace H39 := H39.new hN116
    replace B4 := B4.new hN116
    replace B29 := B29.new hN116
    replace H97 := H97.new hN116
    replace B14 := B14.new hN116
    replace hF := hF.trNew hN116
    refine wpList_nil ?_
    refine ⟨⟨H, B9, hQ24, H39, B4, B29, trivial⟩, ?_⟩
    refine fx_hdone (by kernel_rfl) ?_
    refine fx_tail ?_
    refine fx_val (v := .slice A114 1 1) fr rfl rfl (by decide) (x_assign rfl (fr.ev rfl)) ?_
    clear fr a; intro a fr
    refine fx_val (v := .int .i64 0) fr rfl rfl (by decide) (x_assign rfl rfl) ?_
    clear fr a; intro a fr
    refine wpList_nil ?_
    refine fx_next ?_
    refine wp_ret ?_
    refine fx_ret fr [.cell 4 28, .tmp 5, .tmp 6] [.agg (#[.slice A36 ((setLn bs m.line m.bs).length) cap37, .slice B94 ((E.set m.line.toNat (Ent.mk ((entOf E m.line.toNat).asks) sh0 ((entOf E m.line.toNat).busy) ((entOf E m.line.toNat).asks) ((entOf E m.line.toNat).kind) 0 true ((entOf E m.line.toNat).q))).length) cb95]), .slice A114 1 1, .int .i64 0] rfl ⟨⟨_, rfl, x_loadV ag28 rfl B14.range⟩, rfl, rfl, trivial⟩ rfl ?_
    have hst : strayF (entOf E m.line.toNat) m = false := by rw [stray_11 hk1]; simpa only [Bool.or_false, Bool.false_or] using hc33
    rw [other_b2 hk1 hc48]
    exact ⟨_, rfl, .inr ⟨hst, A36, cap37, B94, cb95, FpR96, A114, 1, rfl, ⟨_, H97⟩, O117, mF_FpR96, gN_A114, ap2_FpR96_A114, hF⟩⟩
set_option maxRecDepth 100000 in
set_option maxHeartbeats 4000000 in
theorem rtake_12 (m : Msg) {w : World} {FpR : Nat → Prop} {A : Option Addr} {cap : Nat} {B : Option Addr} {cb : Nat} {bs : List UInt8} {E : List Ent} {X : List EC} (H : RefAt w FpR A cap B cb ⟨bs, E⟩ X) (hk : m.line.toNat < E.length) (hEb : E.length = bs.length / 16) (hb4 : bs.length ≤ 4096) (hsrc : 0 ≤ m.src ∧ m.src < 4) (hc1 : ¬ chk m ≠ 0) (hc2 : ¬ m.dst ≠ 4) (hk1 : m.kind = 12) (hq : ∀ x ∈ (entOf E m.line.toNat).q, QOk m.line x) (hql : (entOf E m.line.toNat).q.length ≤ 100000) (hask : 0 ≤ (entOf E m.line.toNat).asks ∧ (entOf E m.line.toNat).asks < 4) (hw : 0 ≤ (entOf E m.line.toNat).waits ∧ (entOf E m.line.toNat).waits ≤ 4) : Calls Try.prog 19 #[.agg (#[.slice A bs.length cap, .slice B E.length cb]), .agg (msgE.arr m)] w (Ret fun v w' => (strayF (entOf E m.line.toNat) m = true ∧ v = .tuple #[.agg #[.slice A bs.length cap, .slice B E.length cb], .slice none 0 0, .int .i64 220] ∧ New w w') ∨ (strayF (entOf E m.line.toNat) m = false ∧ ∃ A' c' B' cb' F' M mc, v = .tuple #[.agg #[.slice A' (otherF bs (entOf E m.line.toNat) m).2.1.length c', .slice B' (E.set m.line.toNat (otherF bs (entOf E m.line.toNat) m).1).length cb'], .slice M (otherF bs (entOf E m.line.toNat) m).2.2.length mc, .int .i64 0] ∧ RefH w' F' A' c' B' cb' ⟨(otherF bs (entOf E m.line.toNat) m).2.1, E.set m.line.toNat (otherF bs (entOf E m.line.toNat) m).1⟩ ∧ Own msgE w' M mc (otherF bs (entOf E m.line.toNat) m).2.2 ∧ (∀ g, F' g → FpR g ∨ w.heap.size ≤ g) ∧ (∀ g, inA M g → w.heap.size ≤ g) ∧ (∀ g, F' g → inA M g → False) ∧ New w w')) := by
 have hmn := m.hn
 have hXl : X.length = E.length := H.len
 have mF_FpR : ∀ g, FpR g → FpR g ∨ w.heap.size ≤ g := fun g h => .inl h
 have hc3 : ¬ ((E.length : Nat) : Int) ≤ ((m.line.toNat : Nat) : Int) := by omega
 have hF := Only.refl (fun _ => False) w
 refine fx_enter Try.func19 rfl (N := (197, [])) (T := [(0, .agg (#[.slice A bs.length cap, .slice B E.length cb])), (1, .agg (msgE.arr m))]) rfl (show 2 ≤ 197 by decide) ⟨rfl, rfl, trivial⟩ fun a fr => ?_
 refine wp_seq ?_
 refine wp_region_lit ?_
 refine fx_new fr rfl rfl (by decide) (x_box (cs := #[.slice A bs.length cap, .slice B E.length cb]) rfl (fr.ev rfl) rfl) ?_
 clear fr a
 intro b1 w2 hN3 B4 hb5 a fr
 have ap_FpR_b1 : ¬ FpR b1 := H.apart hb5
 have g_b1 := Nat.le_trans hF.size hb5
 replace H := H.new hN3
 replace hF := hF.trNew hN3
 refine fx_new fr rfl rfl (by decide) (x_box (cs := msgE.arr m) rfl (fr.ev rfl) rfl) ?_
 clear fr a
 intro b6 w7 hN8 B9 hb10 a fr
 have ap_FpR_b6 : ¬ FpR b6 := H.apart hb10
 have ne_b1_b6 : NE b1 b6 := NE.mk (Nat.lt_of_lt_of_le B4.lt hb10)
 have g_b6 := Nat.le_trans hF.size hb10
 replace H := H.new hN8
 replace B4 := B4.new hN8
 replace hF := hF.trNew hN8
 refine fx_new fr rfl rfl (by decide) (x_alloc (z := .agg (#[.slice none 0 0, .slice none 0 0])) (cs := #[.slice none 0 0, .slice none 0 0]) rfl (by kernel_rfl) rfl) ?_
 clear fr a
 intro b11 w12 hN13 B14 hb15 a fr
 have ap_FpR_b11 : ¬ FpR b11 := H.apart hb15
 have ne_b1_b11 : NE b1 b11 := NE.mk (Nat.lt_of_lt_of_le B4.lt hb15)
 have ne_b6_b11 : NE b6 b11 := NE.mk (Nat.lt_of_lt_of_le B9.lt hb15)
 have g_b11 := Nat.le_trans hF.size hb15
 replace H := H.new hN13
 replace B4 := B4.new hN13
 replace B9 := B9.new hN13
 replace hF := hF.trNew hN13
 refine fx_val (v := .slice none 0 0) fr rfl rfl (by decide) (x_assign rfl rfl) ?_
 clear fr a; intro a fr
 refine fx_val (v := .int .i64 0) fr rfl rfl (by decide) (x_assign rfl rfl) ?_
 clear fr a; intro a fr
 refine wpList_nil ?_
 refine fx_next ?_
 refine wp_seq ?_
 refine wp_seq ?_
 refine wp_region_lit ?_
 refine fx_val (v := .agg (msgE.arr m)) fr rfl rfl (by decide) (x_loadE (E := msgE) ag36 rfl rfl (fr.ev rfl) (B9.rangeE msgE)) ?_
 clear fr a; intro a fr
 refine fx_call fr rfl rfl (by decide) (x_call (vs := [.agg (msgE.arr m)]) rfl rfl ⟨(fr.ev rfl), trivial⟩ Try.func39 nm39 rfl) (refchk_c m _) ?_
 clear fr a
 rintro v w16 ⟨rfl, hN17⟩ a fr
 replace H := H.new hN17
 replace B4 := B4.new hN17
 replace B9 := B9.new hN17
 replace B14 := B14.new hN17
 replace hF := hF.trNew hN17
 refine fx_val (v := .bool false) fr rfl rfl (by decide) (x_neq rfl (fr.ev rfl) rfl (decide_eq_false hc1)) ?_
 clear fr a; intro a fr
 refine fx_val (v := .bool false) fr rfl rfl (by decide) (x_move rfl (fr.ev rfl)) ?_
 clear fr a; intro a fr
 refine fx_val (v := .pointer (some ⟨b6, 2, none⟩)) fr (fr.want rfl rfl rfl) rfl (by decide) (x_fieldAddr fo36_2 rfl (fr.ev rfl) rfl) ?_
 clear fr a; intro a fr
 refine fx_val (v := .int .i64 m.dst) fr (fr.want rfl rfl rfl) rfl (by decide) (x_load1 pl3 rfl (fr.ev rfl) (B9.cell 2 rfl)) ?_
 clear fr a; intro a fr
 refine fx_val (v := .bool false) fr (fr.want rfl rfl rfl) rfl (by decide) (x_neq rfl (fr.ev rfl) rfl (decide_eq_false hc2)) ?_
 clear fr a; intro a fr
 refine fx_val (v := .bool false) fr rfl rfl (by decide) (x_pick_f rfl (fr.ev rfl) (fr.ev rfl)) ?_
 clear fr a; intro a fr
 refine wpList_nil ?_
 refine fx_next ?_
 refine fx_cond_f fr rfl ?_
 refine wp_skip ?_
 refine fx_next ?_
 refine wp_seq ?_
 refine wp_region_lit ?_
 refine fx_val (v := .pointer (some ⟨b6, 3, none⟩)) fr rfl rfl (by decide) (x_fieldAddr fo36_3 rfl (fr.ev rfl) rfl) ?_
 clear fr a; intro a fr
 refine fx_val (v := .int .u32 m.line) fr rfl rfl (by decide) (x_load1 pl24 rfl (fr.ev rfl) (B9.cell 3 rfl)) ?_
 clear fr a; intro a fr
 refine fx_val (v := .int .u32 m.line) fr rfl rfl (by decide) (x_assign rfl (fr.ev rfl)) ?_
 clear fr a; intro a fr
 refine wpList_nil ?_
 refine fx_next ?_
 refine wp_seq ?_
 refine wp_seq ?_
 refine wp_region_lit ?_
 refine fx_val (v := .int .u32 m.line) fr rfl rfl (by decide) (x_move rfl (fr.ev rfl)) ?_
 clear fr a; intro a fr
 refine fx_val (v := .int .i64 ((m.line.toNat : Nat) : Int)) fr rfl rfl (by decide) (x_convert Try.underlying24 Try.underlying2 rfl (fr.ev rfl) (i64w (r := ((m.line.toNat : Nat) : Int)) (by omega) (by omega))) ?_
 clear fr a; intro a fr
 refine fx_val (v := .pointer (some ⟨b1, 1, none⟩)) fr rfl rfl (by decide) (x_fieldAddr fo28_1 rfl (fr.ev rfl) rfl) ?_
 clear fr a; intro a fr
 refine fx_val (v := .slice B E.length cb) fr rfl rfl (by decide) (x_load1 pl26 rfl (fr.ev rfl) (B4.cell 1 rfl)) ?_
 clear fr a; intro a fr
 refine fx_val (v := .int .i64 ((E.length : Nat) : Int)) fr rfl rfl (by decide) (x_len Try.underlying26 rfl (fr.ev rfl)) ?_
 clear fr a; intro a fr
 refine fx_val (v := .bool false) fr rfl rfl (by decide) (x_geq rfl (fr.ev rfl) (fr.ev rfl) (decide_eq_false hc3)) ?_
 clear fr a; intro a fr
 refine wpList_nil ?_
 refine fx_next ?_
 refine fx_cond_f fr rfl ?_
 refine wp_skip ?_
 refine fx_next ?_
 refine wp_seq ?_
 refine wp_region_lit ?_
 refine fx_val (v := .pointer (some ⟨b1, 1, none⟩)) fr rfl rfl (by decide) (x_fieldAddr fo28_1 rfl (fr.ev rfl) rfl) ?_
 clear fr a; intro a fr
 refine fx_val (v := .slice B E.length cb) fr rfl rfl (by decide) (x_load1 pl26 rfl (fr.ev rfl) (B4.cell 1 rfl)) ?_
 clear fr a; intro a fr
 refine fx_val (v := .int .u32 m.line) fr rfl rfl (by decide) (x_move rfl (fr.ev rfl)) ?_
 clear fr a; intro a fr
 refine fx_val (v := .int .i64 ((m.line.toNat : Nat) : Int)) fr rfl rfl (by decide) (x_convert Try.underlying24 Try.underlying3 rfl (fr.ev rfl) (i64w (r := ((m.line.toNat : Nat) : Int)) (by omega) (by omega))) ?_
 clear fr a; intro a fr
 obtain ⟨g18, o19, hA20⟩ := (H.ve).some_ (by first | omega | decide)
 refine fx_val (v := .pointer (some ⟨g18, o19 + m.line.toNat * 11, none⟩)) fr rfl rfl (by decide) (x_indexV Try.underlying26 sz42 rfl (fr.ev rfl) hA20 (fr.ev rfl) (by first | omega | decide) rfl) ?_
 clear fr a; intro a fr
 obtain ⟨Q21, qc22, hat23, hQ24, hQF25⟩ := H.at_ m.line.toNat (by omega)
 dsimp only at hat23 hQ24
 have mQ_Q21 := fun g (hg : inA Q21 g) => mF_FpR g (hQF25 g hg)
 have ap_Q21_b1 : Apart Q21 b1 := fun h => ap_FpR_b1 (hQF25 _ h)
 have ap_Q21_b6 : Apart Q21 b6 := fun h => ap_FpR_b6 (hQF25 _ h)
 have ap_Q21_b11 : Apart Q21 b11 := fun h => ap_FpR_b11 (hQF25 _ h)
 refine fx_val (v := .agg (entA (entOf E m.line.toNat) (.slice Q21 ((entOf E m.line.toNat).q.length) qc22))) fr rfl rfl (by decide) (x_loadE (E := ecE) (p := ecOf (entOf E m.line.toNat) Q21 qc22) ag42 rfl rfl (fr.ev rfl) (H.cell hat23 (by omega) hA20)) ?_
 clear fr a; intro a fr
 refine fx_new fr rfl rfl (by decide) (x_alloc (z := .agg (#[.int .i64 0, .bool false, .bool false, .bool false, .bool false, .bool false, .int .i64 0, .int .i64 0, .int .i64 0, .bool false, .slice none 0 0])) (cs := #[.int .i64 0, .bool false, .bool false, .bool false, .bool false, .bool false, .int .i64 0, .int .i64 0, .int .i64 0, .bool false, .slice none 0 0]) rfl (by kernel_rfl) rfl) ?_
 clear fr a
 intro b26 w27 hN28 B29 hb30 a fr
 have ap_FpR_b26 : ¬ FpR b26 := H.apart hb30
 have ne_b1_b26 : NE b1 b26 := NE.mk (Nat.lt_of_lt_of_le B4.lt hb30)
 have ne_b6_b26 : NE b6 b26 := NE.mk (Nat.lt_of_lt_of_le B9.lt hb30)
 have ne_b11_b26 : NE b11 b26 := NE.mk (Nat.lt_of_lt_of_le B14.lt hb30)
 have ap_Q21_b26 : Apart Q21 b26 := hQ24.apart hb30
 have g_b26 := Nat.le_trans hF.size hb30
 replace H := H.new hN28
 replace B4 := B4.new hN28
 replace B9 := B9.new hN28
 replace B14 := B14.new hN28
 replace hQ24 := hQ24.new hN28
 replace hF := hF.trNew hN28
 refine fx_storeS sz42 rfl rfl rfl (fr.ev rfl) (fr.ev rfl) (ent_all _ _ _ _) B29 rfl rfl fun w31 hO32 hBq => ?_
 replace H := H.only hO32 (ne1P ap_FpR_b26)
 replace B4 := B4.only hO32 (by first | exact ne_b1_b26 | exact ne_b26_b1.symm | (show ¬ b1 = b26; omega))
 replace B9 := B9.only hO32 (by first | exact ne_b6_b26 | exact ne_b26_b6.symm | (show ¬ b6 = b26; omega))
 replace B14 := B14.only hO32 (by first | exact ne_b11_b26 | exact ne_b26_b11.symm | (show ¬ b11 = b26; omega))
 replace hQ24 := hQ24.only hO32 (Apart.ne1 ap_Q21_b26)
 replace hF := hF.loc hO32 (.inr g_b26)
 replace B29 := hBq
 clear hBq
 refine wpList_nil ?_
 refine fx_next ?_
 refine wp_seq ?_
 refine wp_region_lit ?_
 refine fx_val (v := .pointer (some ⟨b6, 0, none⟩)) fr rfl rfl (by decide) (x_fieldAddr fo36_0 rfl (fr.ev rfl) rfl) ?_
 clear fr a; intro a fr
 refine fx_val (v := .int .i64 m.kind) fr rfl rfl (by decide) (x_load1 pl33 rfl (fr.ev rfl) (B9.cell 0 rfl)) ?_
 clear fr a; intro a fr
 refine fx_val (v := .int .i64 m.kind) fr rfl rfl (by decide) (x_assign rfl (fr.ev rfl)) ?_
 clear fr a; intro a fr
 refine wpList_nil ?_
 refine fx_next ?_
 refine wp_seq ?_
 refine wp_seq ?_
 refine wp_region_lit ?_
 refine fx_val (v := .int .i64 m.kind) fr rfl rfl (by decide) (x_move rfl (fr.ev rfl)) ?_
 clear fr a; intro a fr
 refine fx_val (v := .bool false) fr rfl rfl (by decide) (x_leq rfl (fr.ev rfl) rfl (decide_eq_false (by omega))) ?_
 clear fr a; intro a fr
 refine wpList_nil ?_
 refine fx_next ?_
 refine fx_cond_f fr rfl ?_
 refine wp_skip ?_
 refine fx_next ?_
 refine wp_seq ?_
 refine wp_seq ?_
 refine wp_region_lit ?_
 refine fx_val (v := .pointer (some ⟨b26, 5, none⟩)) fr rfl rfl (by decide) (x_fieldAddr fo42_2 rfl (fr.ev rfl) rfl) ?_
 clear fr a; intro a fr
 refine fx_val (v := .bool ((entOf E m.line.toNat).busy)) fr rfl rfl (by decide) (x_load1 pl4 rfl (fr.ev rfl) (B29.cell 5 rfl)) ?_
 clear fr a; intro a fr
 refine fx_val (v := .bool (!((entOf E m.line.toNat).busy))) fr rfl rfl (by decide) (x_not rfl (fr.ev rfl) rfl) ?_
 clear fr a; intro a fr
 refine fx_val (v := .bool (!((entOf E m.line.toNat).busy))) fr rfl rfl (by decide) (x_move rfl (fr.ev rfl)) ?_
 clear fr a; intro a fr
 refine fx_may (g := !(!((entOf E m.line.toNat).busy))) (v := .int .i64 m.kind) fr rfl rfl rfl (by simp) rfl (by decide) (fun hg => x_move rfl (fr.ev rfl)) ?_
 clear fr a; intro a fr
 refine fx_may (g := !(!((entOf E m.line.toNat).busy))) (v := .bool true) fr rfl rfl rfl (by simp) rfl (by decide) (fun hg => x_lss rfl ((fr.ev rfl).trans (onlyIf_t hg)) rfl (decide_eq_true (by omega))) ?_
 clear fr a; intro a fr
 refine fx_may (g := !(!((entOf E m.line.toNat).busy))) (v := .bool true) fr rfl rfl rfl (by simp) rfl (by decide) (fun hg => x_move rfl ((fr.ev rfl).trans (onlyIf_t hg))) ?_
 clear fr a; intro a fr
 refine fx_may2 (g := (!(!((entOf E m.line.toNat).busy))) && true) (v := .pointer (some ⟨b26, 8, none⟩)) fr rfl rfl rfl (by simp) rfl (by decide) (fun hg => x_fieldAddr fo42_5 rfl (fr.ev rfl) rfl) ?_
 clear fr a; intro a fr
 refine fx_may2 (g := (!(!((entOf E m.line.toNat).busy))) && true) (v := .int .i64 ((entOf E m.line.toNat).waits)) fr rfl rfl rfl (by simp) rfl (by decide) (fun hg => x_load1 pl3 rfl ((fr.ev rfl).trans (onlyIf_t hg)) (B29.cell 8 rfl)) ?_
 clear fr a; intro a fr
 refine fx_may2 (g := (!(!((entOf E m.line.toNat).busy))) && true) (v := .bool (decide ((entOf E m.line.toNat).waits < 1))) fr rfl rfl rfl (by simp) rfl (by decide) (fun hg => x_lss rfl ((fr.ev rfl).trans (onlyIf_t hg)) rfl rfl) ?_
 clear fr a; intro a fr
 refine fx_may (g := !(!((entOf E m.line.toNat).busy))) (v := .bool (decide ((entOf E m.line.toNat).waits < 1))) fr rfl rfl rfl (by simp) rfl (by decide) (fun hg => x_pick_t rfl ((fr.ev rfl).trans (onlyIf_t hg)) ((fr.ev rfl).trans (onlyIf_t (by rw [hg]; rfl)))) ?_
 clear fr a; intro a fr
 refine fx_val (v := .bool ((!((entOf E m.line.toNat).busy)) || (decide ((entOf E m.line.toNat).waits < 1)))) fr rfl rfl (by decide) (x_pick_or rfl (fr.ev rfl) (fun _ => rfl) (fun hb => ((fr.ev rfl)).trans (onlyIf_t (by simp_all))) rfl) ?_
 clear fr a; intro a fr
 refine fx_val (v := .bool ((!((entOf E m.line.toNat).busy)) || (decide ((entOf E m.line.toNat).waits < 1)))) fr rfl rfl (by decide) (x_move rfl (fr.ev rfl)) ?_
 clear fr a; intro a fr
 refine fx_may (g := !((!((entOf E m.line.toNat).busy)) || (decide ((entOf E m.line.toNat).waits < 1)))) (v := .int .i64 m.kind) fr rfl rfl rfl (by simp) rfl (by decide) (fun hg => x_move rfl (fr.ev rfl)) ?_
 clear fr a; intro a fr
 refine fx_may (g := !((!((entOf E m.line.toNat).busy)) || (decide ((entOf E m.line.toNat).waits < 1)))) (v := .bool false) fr rfl rfl rfl (by simp) rfl (by decide) (fun hg => x_eql rfl ((fr.ev rfl).trans (onlyIf_t hg)) rfl (decide_eq_false (by omega))) ?_
 clear fr a; intro a fr
 refine fx_may (g := !((!((entOf E m.line.toNat).busy)) || (decide ((entOf E m.line.toNat).waits < 1)))) (v := .bool false) fr rfl rfl rfl (by simp) rfl (by decide) (fun hg => x_move rfl ((fr.ev rfl).trans (onlyIf_t hg))) ?_
 clear fr a; intro a fr
 refine fx_may2 (g := (!((!((entOf E m.line.toNat).busy)) || (decide ((entOf E m.line.toNat).waits < 1)))) && false) (v := .pointer (some ⟨b26, 0, none⟩)) fr rfl rfl rfl (by simp) rfl (by decide) (fun hg => x_fieldAddr fo42_0 rfl (fr.ev rfl) rfl) ?_
 clear fr a; intro a fr
 refine fx_may2 (g := (!((!((entOf E m.line.toNat).busy)) || (decide ((entOf E m.line.toNat).waits < 1)))) && false) (v := .int .i64 ((entOf E m.line.toNat).o)) fr rfl rfl rfl (by simp) rfl (by decide) (fun hg => x_load1 pl3 rfl ((fr.ev rfl).trans (onlyIf_t hg)) (B29.cell 0 rfl)) ?_
 clear fr a; intro a fr
 refine fx_may2 (g := (!((!((entOf E m.line.toNat).busy)) || (decide ((entOf E m.line.toNat).waits < 1)))) && false) (v := .pointer (some ⟨b6, 1, none⟩)) fr rfl rfl rfl (by simp) rfl (by decide) (fun hg => x_fieldAddr fo36_1 rfl (fr.ev rfl) rfl) ?_
 clear fr a; intro a fr
 refine fx_may2 (g := (!((!((entOf E m.line.toNat).busy)) || (decide ((entOf E m.line.toNat).waits < 1)))) && false) (v := .int .i64 m.src) fr rfl rfl rfl (by simp) rfl (by decide) (fun hg => x_load1 pl3 rfl ((fr.ev rfl).trans (onlyIf_t hg)) (B9.cell 1 rfl)) ?_
 clear fr a; intro a fr
 refine fx_may2 (g := (!((!((entOf E m.line.toNat).busy)) || (decide ((entOf E m.line.toNat).waits < 1)))) && false) (v := .bool (decide ((entOf E m.line.toNat).o ≠ m.src))) fr rfl rfl rfl (by simp) rfl (by decide) (fun hg => x_neq rfl ((fr.ev rfl).trans (onlyIf_t hg)) ((fr.ev rfl).trans (onlyIf_t hg)) rfl) ?_
 clear fr a; intro a fr
 refine fx_may (g := !((!((entOf E m.line.toNat).busy)) || (decide ((entOf E m.line.toNat).waits < 1)))) (v := .bool false) fr rfl rfl rfl (by simp) rfl (by decide) (fun hg => x_pick_f rfl ((fr.ev rfl).trans (onlyIf_t hg)) rfl) ?_
 clear fr a; intro a fr
 refine fx_val (v := .bool (((!((entOf E m.line.toNat).busy)) || (decide ((entOf E m.line.toNat).waits < 1))) || false)) fr rfl rfl (by decide) (x_pick_or rfl (fr.ev rfl) (fun _ => rfl) (fun hb => ((fr.ev rfl)).trans (onlyIf_t (by simp_all))) rfl) ?_
 clear fr a; intro a fr
 refine fx_val (v := .bool (((!((entOf E m.line.toNat).busy)) || (decide ((entOf E m.line.toNat).waits < 1))) || false)) fr rfl rfl (by decide) (x_move rfl (fr.ev rfl)) ?_
 clear fr a; intro a fr
 refine fx_may (g := !(((!((entOf E m.line.toNat).busy)) || (decide ((entOf E m.line.toNat).waits < 1))) || false)) (v := .int .i64 m.kind) fr rfl rfl rfl (by simp) rfl (by decide) (fun hg => x_move rfl (fr.ev rfl)) ?_
 clear fr a; intro a fr
 refine fx_may (g := !(((!((entOf E m.line.toNat).busy)) || (decide ((entOf E m.line.toNat).waits < 1))) || false)) (v := .bool true) fr rfl rfl rfl (by simp) rfl (by decide) (fun hg => x_eql rfl ((fr.ev rfl).trans (onlyIf_t hg)) rfl (decide_eq_true (by omega))) ?_
 clear fr a; intro a fr
 refine fx_may (g := !(((!((entOf E m.line.toNat).busy)) || (decide ((entOf E m.line.toNat).waits < 1))) || false)) (v := .bool true) fr rfl rfl rfl (by simp) rfl (by decide) (fun hg => x_move rfl ((fr.ev rfl).trans (onlyIf_t hg))) ?_
 clear fr a; intro a fr
 refine fx_may2 (g := (!(((!((entOf E m.line.toNat).busy)) || (decide ((entOf E m.line.toNat).waits < 1))) || false)) && true) (v := .pointer (some ⟨b26, 0, none⟩)) fr rfl rfl rfl (by simp) rfl (by decide) (fun hg => x_fieldAddr fo42_0 rfl (fr.ev rfl) rfl) ?_
 clear fr a; intro a fr
 refine fx_may2 (g := (!(((!((entOf E m.line.toNat).busy)) || (decide ((entOf E m.line.toNat).waits < 1))) || false)) && true) (v := .int .i64 ((entOf E m.line.toNat).o)) fr rfl rfl rfl (by simp) rfl (by decide) (fun hg => x_load1 pl3 rfl ((fr.ev rfl).trans (onlyIf_t hg)) (B29.cell 0 rfl)) ?_
 clear fr a; intro a fr
 refine fx_may2 (g := (!(((!((entOf E m.line.toNat).busy)) || (decide ((entOf E m.line.toNat).waits < 1))) || false)) && true) (v := .bool (decide (0 ≤ (entOf E m.line.toNat).o))) fr rfl rfl rfl (by simp) rfl (by decide) (fun hg => x_geq rfl ((fr.ev rfl).trans (onlyIf_t hg)) rfl rfl) ?_
 clear fr a; intro a fr
 refine fx_may2 (g := (!(((!((entOf E m.line.toNat).busy)) || (decide ((entOf E m.line.toNat).waits < 1))) || false)) && true) (v := .bool (decide (0 ≤ (entOf E m.line.toNat).o))) fr rfl rfl rfl (by simp) rfl (by decide) (fun hg => x_move rfl ((fr.ev rfl).trans (onlyIf_t hg))) ?_
 clear fr a; intro a fr
 refine fx_may2 (g := ((!(((!((entOf E m.line.toNat).busy)) || (decide ((entOf E m.line.toNat).waits < 1))) || false)) && true) && !(decide (0 ≤ (entOf E m.line.toNat).o))) (v := .pointer (some ⟨b6, 1, none⟩)) fr rfl rfl rfl (by simp) rfl (by decide) (fun hg => x_fieldAddr fo36_1 rfl (fr.ev rfl) rfl) ?_
 clear fr a; intro a fr
 refine fx_may2 (g := ((!(((!((entOf E m.line.toNat).busy)) || (decide ((entOf E m.line.toNat).waits < 1))) || false)) && true) && !(decide (0 ≤ (entOf E m.line.toNat).o))) (v := .int .i64 m.src) fr rfl rfl rfl (by simp) rfl (by decide) (fun hg => x_load1 pl3 rfl ((fr.ev rfl).trans (onlyIf_t hg)) (B9.cell 1 rfl)) ?_
 clear fr a; intro a fr
 refine fx_may2 (g := ((!(((!((entOf E m.line.toNat).busy)) || (decide ((entOf E m.line.toNat).waits < 1))) || false)) && true) && !(decide (0 ≤ (entOf E m.line.toNat).o))) (v := .pointer (some ⟨b26, 1, none⟩)) fr rfl rfl rfl (by simp) rfl (by decide) (fun hg => x_fieldAddr fo42_1 rfl (fr.ev rfl) rfl) ?_
 clear fr a; intro a fr
 refine fx_may2 (g := ((!(((!((entOf E m.line.toNat).busy)) || (decide ((entOf E m.line.toNat).waits < 1))) || false)) && true) && !(decide (0 ≤ (entOf E m.line.toNat).o))) (v := .pointer (some ⟨b26, 1 + m.src.toNat, none⟩)) fr rfl rfl rfl (by simp) rfl (by decide) (fun hg => x_indexArr Try.underlying40 sz4 rfl ((fr.ev rfl).trans (onlyIf_t hg)) (((fr.ev rfl).trans (onlyIf_t hg)).trans (int_nat _ m.src (by omega))) (by omega) (by omega)) ?_
 clear fr a; intro a fr
 refine fx_may2 (g := ((!(((!((entOf E m.line.toNat).busy)) || (decide ((entOf E m.line.toNat).waits < 1))) || false)) && true) && !(decide (0 ≤ (entOf E m.line.toNat).o))) (v := .bool (((entOf E m.line.toNat).sh).get m.src)) fr rfl rfl rfl (by simp) rfl (by decide) (fun hg => x_load1 pl4 rfl ((fr.ev rfl).trans (onlyIf_t hg)) (B29.cell _ (ent_sh _ _ m.src (by omega) (by omega)))) ?_
 clear fr a; intro a fr
 refine fx_may2 (g := ((!(((!((entOf E m.line.toNat).busy)) || (decide ((entOf E m.line.toNat).waits < 1))) || false)) && true) && !(decide (0 ≤ (entOf E m.line.toNat).o))) (v := .bool (!(((entOf E m.line.toNat).sh).get m.src))) fr rfl rfl rfl (by simp) rfl (by decide) (fun hg => x_not rfl ((fr.ev rfl).trans (onlyIf_t hg)) rfl) ?_
 clear fr a; intro a fr
 refine fx_may2 (g := (!(((!((entOf E m.line.toNat).busy)) || (decide ((entOf E m.line.toNat).waits < 1))) || false)) && true) (v := .bool ((decide (0 ≤ (entOf E m.line.toNat).o)) || (!(((entOf E m.line.toNat).sh).get m.src)))) fr rfl rfl rfl (by simp) rfl (by decide) (fun hg => x_pick_or rfl ((fr.ev rfl).trans (onlyIf_t hg)) (fun _ => rfl) (fun hb => ((fr.ev rfl)).trans (onlyIf_t (by simp_all))) rfl) ?_
 clear fr a; intro a fr
 refine fx_may2 (g := (!(((!((entOf E m.line.toNat).busy)) || (decide ((entOf E m.line.toNat).waits < 1))) || false)) && true) (v := .bool ((decide (0 ≤ (entOf E m.line.toNat).o)) || (!(((entOf E m.line.toNat).sh).get m.src)))) fr rfl rfl rfl (by simp) rfl (by decide) (fun hg => x_move rfl ((fr.ev rfl).trans (onlyIf_t hg))) ?_
 clear fr a; intro a fr
 refine fx_may2 (g := ((!(((!((entOf E m.line.toNat).busy)) || (decide ((entOf E m.line.toNat).waits < 1))) || false)) && true) && !((decide (0 ≤ (entOf E m.line.toNat).o)) || (!(((entOf E m.line.toNat).sh).get m.src)))) (v := .pointer (some ⟨b6, 1, none⟩)) fr rfl rfl rfl (by simp) rfl (by decide) (fun hg => x_fieldAddr fo36_1 rfl (fr.ev rfl) rfl) ?_
 clear fr a; intro a fr
 refine fx_may2 (g := ((!(((!((entOf E m.line.toNat).busy)) || (decide ((entOf E m.line.toNat).waits < 1))) || false)) && true) && !((decide (0 ≤ (entOf E m.line.toNat).o)) || (!(((entOf E m.line.toNat).sh).get m.src)))) (v := .int .i64 m.src) fr rfl rfl rfl (by simp) rfl (by decide) (fun hg => x_load1 pl3 rfl ((fr.ev rfl).trans (onlyIf_t hg)) (B9.cell 1 rfl)) ?_
 clear fr a; intro a fr
 refine fx_may2 (g := ((!(((!((entOf E m.line.toNat).busy)) || (decide ((entOf E m.line.toNat).waits < 1))) || false)) && true) && !((decide (0 ≤ (entOf E m.line.toNat).o)) || (!(((entOf E m.line.toNat).sh).get m.src)))) (v := .pointer (some ⟨b26, 6, none⟩)) fr rfl rfl rfl (by simp) rfl (by decide) (fun hg => x_fieldAddr fo42_3 rfl (fr.ev rfl) rfl) ?_
 clear fr a; intro a fr
 refine fx_may2 (g := ((!(((!((entOf E m.line.toNat).busy)) || (decide ((entOf E m.line.toNat).waits < 1))) || false)) && true) && !((decide (0 ≤ (entOf E m.line.toNat).o)) || (!(((entOf E m.line.toNat).sh).get m.src)))) (v := .int .i64 ((entOf E m.line.toNat).asks)) fr rfl rfl rfl (by simp) rfl (by decide) (fun hg => x_load1 pl3 rfl ((fr.ev rfl).trans (onlyIf_t hg)) (B29.cell 6 rfl)) ?_
 clear fr a; intro a fr
 refine fx_may2 (g := ((!(((!((entOf E m.line.toNat).busy)) || (decide ((entOf E m.line.toNat).waits < 1))) || false)) && true) && !((decide (0 ≤ (entOf E m.line.toNat).o)) || (!(((entOf E m.line.toNat).sh).get m.src)))) (v := .bool (decide (m.src = (entOf E m.line.toNat).asks))) fr rfl rfl rfl (by simp) rfl (by decide) (fun hg => x_eql rfl ((fr.ev rfl).trans (onlyIf_t hg)) ((fr.ev rfl).trans (onlyIf_t hg)) rfl) ?_
 clear fr a; intro a fr
 refine fx_may2 (g := (!(((!((entOf E m.line.toNat).busy)) || (decide ((entOf E m.line.toNat).waits < 1))) || false)) && true) (v := .bool (((decide (0 ≤ (entOf E m.line.toNat).o)) || (!(((entOf E m.line.toNat).sh).get m.src))) || (decide (m.src = (entOf E m.line.toNat).asks)))) fr rfl rfl rfl (by simp) rfl (by decide) (fun hg => x_pick_or rfl ((fr.ev rfl).trans (onlyIf_t hg)) (fun _ => rfl) (fun hb => ((fr.ev rfl)).trans (onlyIf_t (by simp_all))) rfl) ?_
 clear fr a; intro a fr
 refine fx_may (g := !(((!((entOf E m.line.toNat).busy)) || (decide ((entOf E m.line.toNat).waits < 1))) || false)) (v := .bool (((decide (0 ≤ (entOf E m.line.toNat).o)) || (!(((entOf E m.line.toNat).sh).get m.src))) || (decide (m.src = (entOf E m.line.toNat).asks)))) fr rfl rfl rfl (by simp) rfl (by decide) (fun hg => x_pick_t rfl ((fr.ev rfl).trans (onlyIf_t hg)) ((fr.ev rfl).trans (onlyIf_t (by rw [hg]; rfl)))) ?_
 clear fr a; intro a fr
 refine fx_val (v := .bool ((((!((entOf E m.line.toNat).busy)) || (decide ((entOf E m.line.toNat).waits < 1))) || false) || (((decide (0 ≤ (entOf E m.line.toNat).o)) || (!(((entOf E m.line.toNat).sh).get m.src))) || (decide (m.src = (entOf E m.line.toNat).asks))))) fr rfl rfl (by decide) (x_pick_or rfl (fr.ev rfl) (fun _ => rfl) (fun hb => ((fr.ev rfl)).trans (onlyIf_t (by simp_all))) rfl) ?_
 clear fr a; intro a fr
 refine fx_val (v := .bool ((((!((entOf E m.line.toNat).busy)) || (decide ((entOf E m.line.toNat).waits < 1))) || false) || (((decide (0 ≤ (entOf E m.line.toNat).o)) || (!(((entOf E m.line.toNat).sh).get m.src))) || (decide (m.src = (entOf E m.line.toNat).asks))))) fr rfl rfl (by decide) (x_move rfl (fr.ev rfl)) ?_
 clear fr a; intro a fr
 refine fx_may (g := !((((!((entOf E m.line.toNat).busy)) || (decide ((entOf E m.line.toNat).waits < 1))) || false) || (((decide (0 ≤ (entOf E m.line.toNat).o)) || (!(((entOf E m.line.toNat).sh).get m.src))) || (decide (m.src = (entOf E m.line.toNat).asks))))) (v := .int .i64 m.kind) fr rfl rfl rfl (by simp) rfl (by decide) (fun hg => x_move rfl (fr.ev rfl)) ?_
 clear fr a; intro a fr
 refine fx_may (g := !((((!((entOf E m.line.toNat).busy)) || (decide ((entOf E m.line.toNat).waits < 1))) || false) || (((decide (0 ≤ (entOf E m.line.toNat).o)) || (!(((entOf E m.line.toNat).sh).get m.src))) || (decide (m.src = (entOf E m.line.toNat).asks))))) (v := .bool false) fr rfl rfl rfl (by simp) rfl (by decide) (fun hg => x_eql rfl ((fr.ev rfl).trans (onlyIf_t hg)) rfl (decide_eq_false (by omega))) ?_
 clear fr a; intro a fr
 refine fx_may (g := !((((!((entOf E m.line.toNat).busy)) || (decide ((entOf E m.line.toNat).waits < 1))) || false) || (((decide (0 ≤ (entOf E m.line.toNat).o)) || (!(((entOf E m.line.toNat).sh).get m.src))) || (decide (m.src = (entOf E m.line.toNat).asks))))) (v := .bool false) fr rfl rfl rfl (by simp) rfl (by decide) (fun hg => x_move rfl ((fr.ev rfl).trans (onlyIf_t hg))) ?_
 clear fr a; intro a fr
 refine fx_may2 (g := (!((((!((entOf E m.line.toNat).busy)) || (decide ((entOf E m.line.toNat).waits < 1))) || false) || (((decide (0 ≤ (entOf E m.line.toNat).o)) || (!(((entOf E m.line.toNat).sh).get m.src))) || (decide (m.src = (entOf E m.line.toNat).asks))))) && false) (v := .pointer (some ⟨b26, 9, none⟩)) fr rfl rfl rfl (by simp) rfl (by decide) (fun hg => x_fieldAddr fo42_6 rfl (fr.ev rfl) rfl) ?_
 clear fr a; intro a fr
 refine fx_may2 (g := (!((((!((entOf E m.line.toNat).busy)) || (decide ((entOf E m.line.toNat).waits < 1))) || false) || (((decide (0 ≤ (entOf E m.line.toNat).o)) || (!(((entOf E m.line.toNat).sh).get m.src))) || (decide (m.src = (entOf E m.line.toNat).asks))))) && false) (v := .bool ((entOf E m.line.toNat).told)) fr rfl rfl rfl (by simp) rfl (by decide) (fun hg => x_load1 pl4 rfl ((fr.ev rfl).trans (onlyIf_t hg)) (B29.cell 9 rfl)) ?_
 clear fr a; intro a fr
 refine fx_may2 (g := (!((((!((entOf E m.line.toNat).busy)) || (decide ((entOf E m.line.toNat).waits < 1))) || false) || (((decide (0 ≤ (entOf E m.line.toNat).o)) || (!(((entOf E m.line.toNat).sh).get m.src))) || (decide (m.src = (entOf E m.line.toNat).asks))))) && false) (v := .bool (!((entOf E m.line.toNat).told))) fr rfl rfl rfl (by simp) rfl (by decide) (fun hg => x_not rfl ((fr.ev rfl).trans (onlyIf_t hg)) rfl) ?_
 clear fr a; intro a fr
 refine fx_may2 (g := (!((((!((entOf E m.line.toNat).busy)) || (decide ((entOf E m.line.toNat).waits < 1))) || false) || (((decide (0 ≤ (entOf E m.line.toNat).o)) || (!(((entOf E m.line.toNat).sh).get m.src))) || (decide (m.src = (entOf E m.line.toNat).asks))))) && false) (v := .bool (!((entOf E m.line.toNat).told))) fr rfl rfl rfl (by simp) rfl (by decide) (fun hg => x_move rfl ((fr.ev rfl).trans (onlyIf_t hg))) ?_
 clear fr a; intro a fr
 refine fx_may2 (g := ((!((((!((entOf E m.line.toNat).busy)) || (decide ((entOf E m.line.toNat).waits < 1))) || false) || (((decide (0 ≤ (entOf E m.line.toNat).o)) || (!(((entOf E m.line.toNat).sh).get m.src))) || (decide (m.src = (entOf E m.line.toNat).asks))))) && false) && !(!((entOf E m.line.toNat).told))) (v := .pointer (some ⟨b26, 6, none⟩)) fr rfl rfl rfl (by simp) rfl (by decide) (fun hg => x_fieldAddr fo42_3 rfl (fr.ev rfl) rfl) ?_
 clear fr a; intro a fr
 refine fx_may2 (g := ((!((((!((entOf E m.line.toNat).busy)) || (decide ((entOf E m.line.toNat).waits < 1))) || false) || (((decide (0 ≤ (entOf E m.line.toNat).o)) || (!(((entOf E m.line.toNat).sh).get m.src))) || (decide (m.src = (entOf E m.line.toNat).asks))))) && false) && !(!((entOf E m.line.toNat).told))) (v := .int .i64 ((entOf E m.line.toNat).asks)) fr rfl rfl rfl (by simp) rfl (by decide) (fun hg => x_load1 pl3 rfl ((fr.ev rfl).trans (onlyIf_t hg)) (B29.cell 6 rfl)) ?_
 clear fr a; intro a fr
 refine fx_may2 (g := ((!((((!((entOf E m.line.toNat).busy)) || (decide ((entOf E m.line.toNat).waits < 1))) || false) || (((decide (0 ≤ (entOf E m.line.toNat).o)) || (!(((entOf E m.line.toNat).sh).get m.src))) || (decide (m.src = (entOf E m.line.toNat).asks))))) && false) && !(!((entOf E m.line.toNat).told))) (v := .pointer (some ⟨b6, 1, none⟩)) fr rfl rfl rfl (by simp) rfl (by decide) (fun hg => x_fieldAddr fo36_1 rfl (fr.ev rfl) rfl) ?_
 clear fr a; intro a fr
 refine fx_may2 (g := ((!((((!((entOf E m.line.toNat).busy)) || (decide ((entOf E m.line.toNat).waits < 1))) || false) || (((decide (0 ≤ (entOf E m.line.toNat).o)) || (!(((entOf E m.line.toNat).sh).get m.src))) || (decide (m.src = (entOf E m.line.toNat).asks))))) && false) && !(!((entOf E m.line.toNat).told))) (v := .int .i64 m.src) fr rfl rfl rfl (by simp) rfl (by decide) (fun hg => x_load1 pl3 rfl ((fr.ev rfl).trans (onlyIf_t hg)) (B9.cell 1 rfl)) ?_
 clear fr a; intro a fr
 refine fx_may2 (g := ((!((((!((entOf E m.line.toNat).busy)) || (decide ((entOf E m.line.toNat).waits < 1))) || false) || (((decide (0 ≤ (entOf E m.line.toNat).o)) || (!(((entOf E m.line.toNat).sh).get m.src))) || (decide (m.src = (entOf E m.line.toNat).asks))))) && false) && !(!((entOf E m.line.toNat).told))) (v := .bool (decide ((entOf E m.line.toNat).asks ≠ m.src))) fr rfl rfl rfl (by simp) rfl (by decide) (fun hg => x_neq rfl ((fr.ev rfl).trans (onlyIf_t hg)) ((fr.ev rfl).trans (onlyIf_t hg)) rfl) ?_
 clear fr a; intro a fr
 refine fx_may2 (g := (!((((!((entOf E m.line.toNat).busy)) || (decide ((entOf E m.line.toNat).waits < 1))) || false) || (((decide (0 ≤ (entOf E m.line.toNat).o)) || (!(((entOf E m.line.toNat).sh).get m.src))) || (decide (m.src = (entOf E m.line.toNat).asks))))) && false) (v := .bool ((!((entOf E m.line.toNat).told)) || (decide ((entOf E m.line.toNat).asks ≠ m.src)))) fr rfl rfl rfl (by simp) rfl (by decide) (fun hg => x_pick_or rfl ((fr.ev rfl).trans (onlyIf_t hg)) (fun _ => rfl) (fun hb => ((fr.ev rfl)).trans (onlyIf_t (by simp_all))) rfl) ?_
 clear fr a; intro a fr
 refine fx_may (g := !((((!((entOf E m.line.toNat).busy)) || (decide ((entOf E m.line.toNat).waits < 1))) || false) || (((decide (0 ≤ (entOf E m.line.toNat).o)) || (!(((entOf E m.line.toNat).sh).get m.src))) || (decide (m.src = (entOf E m.line.toNat).asks))))) (v := .bool false) fr rfl rfl rfl (by simp) rfl (by decide) (fun hg => x_pick_f rfl ((fr.ev rfl).trans (onlyIf_t hg)) rfl) ?_
 clear fr a; intro a fr
 refine fx_val (v := .bool (((((!((entOf E m.line.toNat).busy)) || (decide ((entOf E m.line.toNat).waits < 1))) || false) || (((decide (0 ≤ (entOf E m.line.toNat).o)) || (!(((entOf E m.line.toNat).sh).get m.src))) || (decide (m.src = (entOf E m.line.toNat).asks)))) || false)) fr rfl rfl (by decide) (x_pick_or rfl (fr.ev rfl) (fun _ => rfl) (fun hb => ((fr.ev rfl)).trans (onlyIf_t (by simp_all))) rfl) ?_
 clear fr a; intro a fr
 refine wpList_nil ?_
 refine fx_next ?_
 refine fx_cond fr rfl (fun hc33 => ?_) (fun hc33 => ?_)
 ·skip
  have hc33s := hc33
  try simp at hc33s
  refine wp_seq ?_
  refine wp_region_lit ?_
  refine fx_val (v := .agg (#[.slice A bs.length cap, .slice B E.length cb])) fr rfl rfl (by decide) (x_loadS ag28 rfl (fr.ev rfl) rfl B4.range) ?_
  clear fr a; intro a fr
  refine fx_storeS sz28 rfl rfl rfl (fr.ev rfl) (fr.ev rfl) (by simp [Value.oneCell']) B14 rfl rfl fun w34 hO35 hBq => ?_
  replace H := H.only hO35 (ne1P ap_FpR_b11)
  replace B4 := B4.only hO35 (by first | exact ne_b1_b11 | exact ne_b11_b1.symm | (show ¬ b1 = b11; omega))
  replace B9 := B9.only hO35 (by first | exact ne_b6_b11 | exact ne_b11_b6.symm | (show ¬ b6 = b11; omega))
  replace hQ24 := hQ24.only hO35 (Apart.ne1 ap_Q21_b11)
  replace B29 := B29.only hO35 (by first | exact ne_b26_b11 | exact ne_b11_b26.symm | (show ¬ b26 = b11; omega))
  replace hF := hF.loc hO35 (.inr g_b11)
  replace B14 := hBq
  clear hBq
  refine fx_val (v := .slice none 0 0) fr rfl rfl (by decide) (x_assign rfl rfl) ?_
  clear fr a; intro a fr
  refine fx_val (v := .int .i64 220) fr rfl rfl (by decide) (x_assign rfl rfl) ?_
  clear fr a; intro a fr
  refine wpList_nil ?_
  refine fx_next ?_
  refine wp_ret ?_
  refine fx_rt ?_
  refine fx_ret fr [.cell 4 28, .tmp 5, .tmp 6] [.agg (#[.slice A bs.length cap, .slice B E.length cb]), .slice none 0 0, .int .i64 220] rfl ⟨⟨_, rfl, x_loadV ag28 rfl B14.range⟩, rfl, rfl, trivial⟩ rfl ?_
  have hst : strayF (entOf E m.line.toNat) m = true := by rw [stray_12 hk1]; simpa only [Bool.or_false, Bool.false_or] using hc33
  exact ⟨_, rfl, .inl ⟨hst, rfl, hF⟩⟩
 ·skip
  have hc33s := hc33
  try simp at hc33s
  refine wp_skip ?_
  refine fx_next ?_
  refine wp_seq ?_
  refine wp_seq ?_
  refine wp_region_lit ?_
  refine fx_val (v := .int .i64 m.kind) fr rfl rfl (by decide) (x_move rfl (fr.ev rfl)) ?_
  clear fr a; intro a fr
  refine fx_val (v := .bool false) fr rfl rfl (by decide) (x_eql rfl (fr.ev rfl) rfl (decide_eq_false (by omega))) ?_
  clear fr a; intro a fr
  refine wpList_nil ?_
  refine fx_next ?_
  refine fx_cond_f fr rfl ?_
  refine wp_skip ?_
  refine fx_next ?_
  refine wp_seq ?_
  refine wp_seq ?_
  refine wp_region_lit ?_
  refine fx_val (v := .int .i64 m.kind) fr rfl rfl (by decide) (x_move rfl (fr.ev rfl)) ?_
  clear fr a; intro a fr
  refine fx_val (v := .bool false) fr rfl rfl (by decide) (x_eql rfl (fr.ev rfl) rfl (decide_eq_false (by omega))) ?_
  clear fr a; intro a fr
  refine wpList_nil ?_
  refine fx_next ?_
  refine fx_cond_f fr rfl ?_
  refine wp_skip ?_
  refine fx_next ?_
  refine wp_seq ?_
  refine wp_seq ?_
  refine wp_region_lit ?_
  refine fx_val (v := .int .i64 m.kind) fr rfl rfl (by decide) (x_move rfl (fr.ev rfl)) ?_
  clear fr a; intro a fr
  refine fx_val (v := .bool true) fr rfl rfl (by decide) (x_eql rfl (fr.ev rfl) rfl (decide_eq_true (by omega))) ?_
  clear fr a; intro a fr
  refine wpList_nil ?_
  refine fx_next ?_
  refine fx_cond_t fr rfl ?_
  refine wp_seq ?_
  refine wp_region_lit ?_
  refine fx_val (v := .pointer (some ⟨b6, 1, none⟩)) fr rfl rfl (by decide) (x_fieldAddr fo36_1 rfl (fr.ev rfl) rfl) ?_
  clear fr a; intro a fr
  refine fx_val (v := .int .i64 m.src) fr rfl rfl (by decide) (x_load1 pl3 rfl (fr.ev rfl) (B9.cell 1 rfl)) ?_
  clear fr a; intro a fr
  refine fx_val (v := .pointer (some ⟨b26, 1, none⟩)) fr rfl rfl (by decide) (x_fieldAddr fo42_1 rfl (fr.ev rfl) rfl) ?_
  clear fr a; intro a fr
  refine fx_val (v := .pointer (some ⟨b26, 1 + m.src.toNat, none⟩)) fr rfl rfl (by decide) (x_indexArr Try.underlying40 sz4 rfl (fr.ev rfl) ((fr.ev rfl).trans (int_nat _ m.src (by omega))) (by omega) (by omega)) ?_
  clear fr a; intro a fr
  refine fx_store1 sz4 rfl rfl rfl (fr.ev rfl) rfl rfl B29 (show 1 + m.src.toNat < 11 by omega) (cs' := entA (Ent.mk ((entOf E m.line.toNat).o) (((entOf E m.line.toNat).sh).set m.src false) ((entOf E m.line.toNat).busy) ((entOf E m.line.toNat).asks) ((entOf E m.line.toNat).kind) ((entOf E m.line.toNat).waits) ((entOf E m.line.toNat).told) ((entOf E m.line.toNat).q)) (.slice Q21 ((entOf E m.line.toNat).q.length) qc22)) (ent_setSh _ _ m.src _ (by omega) (by omega)) fun w36 hO37 hBq => ?_
  replace H := H.only hO37 (ne1P ap_FpR_b26)
  replace B4 := B4.only hO37 (by first | exact ne_b1_b26 | exact ne_b26_b1.symm | (show ¬ b1 = b26; omega))
  replace B9 := B9.only hO37 (by first | exact ne_b6_b26 | exact ne_b26_b6.symm | (show ¬ b6 = b26; omega))
  replace B14 := B14.only hO37 (by first | exact ne_b11_b26 | exact ne_b26_b11.symm | (show ¬ b11 = b26; omega))
  replace hQ24 := hQ24.only hO37 (Apart.ne1 ap_Q21_b26)
  replace hF := hF.loc hO37 (.inr g_b26)
  replace B29 := hBq
  clear hBq
  refine wpList_nil ?_
  refine fx_next ?_
  refine wp_seq ?_
  refine wp_region_lit ?_
  refine fx_val (v := .pointer (some ⟨b26, 8, none⟩)) fr rfl rfl (by decide) (x_fieldAddr fo42_5 rfl (fr.ev rfl) rfl) ?_
  clear fr a; intro a fr
  refine fx_val (v := .int .i64 ((entOf E m.line.toNat).waits)) fr rfl rfl (by decide) (x_load1 pl3 rfl (fr.ev rfl) (B29.cell 8 rfl)) ?_
  clear fr a; intro a fr
  refine fx_val (v := .int .i64 ((entOf E m.line.toNat).waits - 1)) fr rfl rfl (by decide) (x_sub rfl (fr.ev rfl) rfl (i64w (r := (entOf E m.line.toNat).waits - 1) (by omega) (by omega))) ?_
  clear fr a; intro a fr
  refine fx_val (v := .pointer (some ⟨b26, 8, none⟩)) fr rfl rfl (by decide) (x_fieldAddr fo42_5 rfl (fr.ev rfl) rfl) ?_
  clear fr a; intro a fr
  refine fx_store1 sz3 rfl rfl rfl (fr.ev rfl) (fr.ev rfl) rfl B29 (show 8 < 11 by decide) (cs' := entA (Ent.mk ((entOf E m.line.toNat).o) (((entOf E m.line.toNat).sh).set m.src false) ((entOf E m.line.toNat).busy) ((entOf E m.line.toNat).asks) ((entOf E m.line.toNat).kind) ((entOf E m.line.toNat).waits - 1) ((entOf E m.line.toNat).told) ((entOf E m.line.toNat).q)) (.slice Q21 ((entOf E m.line.toNat).q.length) qc22)) rfl fun w38 hO39 hBq => ?_
  replace H := H.only hO39 (ne1P ap_FpR_b26)
  replace B4 := B4.only hO39 (by first | exact ne_b1_b26 | exact ne_b26_b1.symm | (show ¬ b1 = b26; omega))
  replace B9 := B9.only hO39 (by first | exact ne_b6_b26 | exact ne_b26_b6.symm | (show ¬ b6 = b26; omega))
  replace B14 := B14.only hO39 (by first | exact ne_b11_b26 | exact ne_b26_b11.symm | (show ¬ b11 = b26; omega))
  replace hQ24 := hQ24.only hO39 (Apart.ne1 ap_Q21_b26)
  replace hF := hF.loc hO39 (.inr g_b26)
  replace B29 := hBq
  clear hBq
  refine wpList_nil ?_
  refine fx_next ?_
  refine wp_seq ?_
  refine wp_region_lit ?_
  refine fx_val (v := .pointer (some ⟨b26, 8, none⟩)) fr rfl rfl (by decide) (x_fieldAddr fo42_5 rfl (fr.ev rfl) rfl) ?_
  clear fr a; intro a fr
  refine fx_val (v := .int .i64 ((entOf E m.line.toNat).waits - 1)) fr rfl rfl (by decide) (x_load1 pl3 rfl (fr.ev rfl) (B29.cell 8 rfl)) ?_
  clear fr a; intro a fr
  refine fx_val (v := .bool (decide (0 < (entOf E m.line.toNat).waits - 1))) fr rfl rfl (by decide) (x_gtr rfl (fr.ev rfl) rfl rfl) ?_
  clear fr a; intro a fr
  refine wpList_nil ?_
  refine fx_next ?_
  refine fx_cond fr rfl (fun hc40 => ?_) (fun hc40 => ?_)
  ·skip
   have hc40 := of_decide_eq_true hc40
   refine wp_seq ?_
   refine wp_region_lit ?_
   refine fx_val (v := .agg (#[.slice A bs.length cap, .slice B E.length cb])) fr rfl rfl (by decide) (x_loadS ag28 rfl (fr.ev rfl) rfl B4.range) ?_
   clear fr a; intro a fr
   refine fx_val (v := .int .u32 m.line) fr rfl rfl (by decide) (x_move rfl (fr.ev rfl)) ?_
   clear fr a; intro a fr
   refine fx_val (v := .agg (entA (Ent.mk ((entOf E m.line.toNat).o) (((entOf E m.line.toNat).sh).set m.src false) ((entOf E m.line.toNat).busy) ((entOf E m.line.toNat).asks) ((entOf E m.line.toNat).kind) ((entOf E m.line.toNat).waits - 1) ((entOf E m.line.toNat).told) ((entOf E m.line.toNat).q)) (.slice Q21 ((entOf E m.line.toNat).q.length) qc22))) fr rfl rfl (by decide) (x_loadS ag42 rfl (fr.ev rfl) rfl B29.range) ?_
   clear fr a; intro a fr
   refine fx_call fr rfl rfl (by decide) (x_call (vs := [.agg (#[.slice A bs.length cap, .slice B E.length cb]), .int .u32 m.line, .agg (entA (Ent.mk ((entOf E m.line.toNat).o) (((entOf E m.line.toNat).sh).set m.src false) ((entOf E m.line.toNat).busy) ((entOf E m.line.toNat).asks) ((entOf E m.line.toNat).kind) ((entOf E m.line.toNat).waits - 1) ((entOf E m.line.toNat).told) ((entOf E m.line.toNat).q)) (.slice Q21 ((entOf E m.line.toNat).q.length) qc22))]) rfl rfl ⟨(fr.ev rfl), (fr.ev rfl), (fr.ev rfl), trivial⟩ Try.func40 nm40 rfl) (rwith_r m.line m.hn (Ent.mk ((entOf E m.line.toNat).o) (((entOf E m.line.toNat).sh).set m.src false) ((entOf E m.line.toNat).busy) ((entOf E m.line.toNat).asks) ((entOf E m.line.toNat).kind) ((entOf E m.line.toNat).waits - 1) ((entOf E m.line.toNat).told) ((entOf E m.line.toNat).q)) Q21 qc22 H (by omega) (by omega) hQ24) ?_
   clear fr a
   rintro v w46 ⟨B41, cb42, FpR43, rfl, H44, mv45, hN47⟩ a fr
   have ap_FpR43_b1 : ¬ FpR43 b1 := moved_apartP mv45 (fun h => h.elim ap_FpR_b1 ap_Q21_b1) B4.lt
   have ap_FpR43_b6 : ¬ FpR43 b6 := moved_apartP mv45 (fun h => h.elim ap_FpR_b6 ap_Q21_b6) B9.lt
   have ap_FpR43_b11 : ¬ FpR43 b11 := moved_apartP mv45 (fun h => h.elim ap_FpR_b11 ap_Q21_b11) B14.lt
   have ap_FpR43_b26 : ¬ FpR43 b26 := moved_apartP mv45 (fun h => h.elim ap_FpR_b26 ap_Q21_b26) B29.lt
   have mF_FpR43 : ∀ g, FpR43 g → FpR g ∨ w.heap.size ≤ g := fun g hg => (mv45 g hg).elim (fun h => h.elim (mF_FpR g) (mQ_Q21 g)) (fun h => .inr (Nat.le_trans hF.size h))
   replace H := H.new hN47
   replace B4 := B4.new hN47
   replace B9 := B9.new hN47
   replace B14 := B14.new hN47
   replace hQ24 := hQ24.new hN47
   replace B29 := B29.new hN47
   replace hF := hF.trNew hN47
   have hel48 : (E.set m.line.toNat (Ent.mk ((entOf E m.line.toNat).o) (((entOf E m.line.toNat).sh).set m.src false) ((entOf E m.line.toNat).busy) ((entOf E m.line.toNat).asks) ((entOf E m.line.toNat).kind) ((entOf E m.line.toNat).waits - 1) ((entOf E m.line.toNat).told) ((entOf E m.line.toNat).q))).length = E.length := List.length_set
   have hxl49 := H44.len
   simp only [List.length_set] at hxl49
   refine fx_storeS sz28 rfl rfl rfl (fr.ev rfl) (fr.ev rfl) (by simp [Value.oneCell']) B14 rfl rfl fun w50 hO51 hBq => ?_
   replace H := H.only hO51 (ne1P ap_FpR_b11)
   replace B4 := B4.only hO51 (by first | exact ne_b1_b11 | exact ne_b11_b1.symm | (show ¬ b1 = b11; omega))
   replace B9 := B9.only hO51 (by first | exact ne_b6_b11 | exact ne_b11_b6.symm | (show ¬ b6 = b11; omega))
   replace hQ24 := hQ24.only hO51 (Apart.ne1 ap_Q21_b11)
   replace B29 := B29.only hO51 (by first | exact ne_b26_b11 | exact ne_b11_b26.symm | (show ¬ b26 = b11; omega))
   replace H44 := H44.only hO51 (ne1P ap_FpR43_b11)
   replace hF := hF.loc hO51 (.inr g_b11)
   replace B14 := hBq
   clear hBq
   refine fx_val (v := .slice none 0 0) fr rfl rfl (by decide) (x_assign rfl rfl) ?_
   clear fr a; intro a fr
   refine fx_val (v := .int .i64 0) fr rfl rfl (by decide) (x_assign rfl rfl) ?_
   clear fr a; intro a fr
   refine wpList_nil ?_
   refine fx_next ?_
   refine wp_ret ?_
   refine fx_rt ?_
   refine fx_ret fr [.cell 4 28, .tmp 5, .tmp 6] [.agg (#[.slice A bs.length cap, .slice B41 ((E.set m.line.toNat (Ent.mk ((entOf E m.line.toNat).o) (((entOf E m.line.toNat).sh).set m.src false) ((entOf E m.line.toNat).busy) ((entOf E m.line.toNat).asks) ((entOf E m.line.toNat).kind) ((entOf E m.line.toNat).waits - 1) ((entOf E m.line.toNat).told) ((entOf E m.line.toNat).q))).length) cb42]), .slice none 0 0, .int .i64 0] rfl ⟨⟨_, rfl, x_loadV ag28 rfl B14.range⟩, rfl, rfl, trivial⟩ rfl ?_
   have hst : strayF (entOf E m.line.toNat) m = false := by rw [stray_12 hk1]; simpa only [Bool.or_false, Bool.false_or] using hc33
   have hw1 : 1 ≤ (entOf E m.line.toNat).waits := by have h9 := hst; simp [strayF, hk1] at h9; omega
   rw [other_a2 hk1 (by omega)]
   exact ⟨_, rfl, .inr ⟨hst, A, cap, B41, cb42, FpR43, none, 0, rfl, ⟨_, H44⟩, Own.nil, mF_FpR43, fun g hg => absurd hg (apart_none g), fun g _ hg => apart_none g hg, hF⟩⟩
  ·skip
   have hc40 := of_decide_eq_false hc40
   refine wp_skip ?_
   refine fx_next ?_
   refine wp_seq ?_
   refine wp_region_lit ?_
   refine fx_val (v := .agg (entA (Ent.mk ((entOf E m.line.toNat).o) (((entOf E m.line.toNat).sh).set m.src false) ((entOf E m.line.toNat).busy) ((entOf E m.line.toNat).asks) ((entOf E m.line.toNat).kind) ((entOf E m.line.toNat).waits - 1) ((entOf E m.line.toNat).told) ((entOf E m.line.toNat).q)) (.slice Q21 ((entOf E m.line.toNat).q.length) qc22))) fr rfl rfl (by decide) (x_loadS ag42 rfl (fr.ev rfl) rfl B29.range) ?_
   clear fr a; intro a fr
   refine fx_val (v := .pointer (some ⟨b26, 6, none⟩)) fr rfl rfl (by decide) (x_fieldAddr fo42_3 rfl (fr.ev rfl) rfl) ?_
   clear fr a; intro a fr
   refine fx_val (v := .int .i64 ((entOf E m.line.toNat).asks)) fr rfl rfl (by decide) (x_load1 pl3 rfl (fr.ev rfl) (B29.cell 6 rfl)) ?_
   clear fr a; intro a fr
   refine fx_call fr rfl rfl (by decide) (x_call (vs := [.agg (entA (Ent.mk ((entOf E m.line.toNat).o) (((entOf E m.line.toNat).sh).set m.src false) ((entOf E m.line.toNat).busy) ((entOf E m.line.toNat).asks) ((entOf E m.line.toNat).kind) ((entOf E m.line.toNat).waits - 1) ((entOf E m.line.toNat).told) ((entOf E m.line.toNat).q)) (.slice Q21 ((entOf E m.line.toNat).q.length) qc22)), .int .i64 ((entOf E m.line.toNat).asks)]) rfl rfl ⟨(fr.ev rfl), (fr.ev rfl), trivial⟩ Try.func44 nm44 rfl) (rown_c (Ent.mk ((entOf E m.line.toNat).o) (((entOf E m.line.toNat).sh).set m.src false) ((entOf E m.line.toNat).busy) ((entOf E m.line.toNat).asks) ((entOf E m.line.toNat).kind) ((entOf E m.line.toNat).waits - 1) ((entOf E m.line.toNat).told) ((entOf E m.line.toNat).q)) Q21 ((entOf E m.line.toNat).q.length) qc22 ((entOf E m.line.toNat).asks) _) ?_
   clear fr a
   rintro v w52 ⟨rfl, hN53⟩ a fr
   replace H := H.new hN53
   replace B4 := B4.new hN53
   replace B9 := B9.new hN53
   replace B14 := B14.new hN53
   replace hQ24 := hQ24.new hN53
   replace B29 := B29.new hN53
   replace hF := hF.trNew hN53
   refine fx_storeS sz42 rfl rfl rfl (fr.ev rfl) (fr.ev rfl) (ent_all _ _ _ _) B29 rfl rfl fun w54 hO55 hBq => ?_
   replace H := H.only hO55 (ne1P ap_FpR_b26)
   replace B4 := B4.only hO55 (by first | exact ne_b1_b26 | exact ne_b26_b1.symm | (show ¬ b1 = b26; omega))
   replace B9 := B9.only hO55 (by first | exact ne_b6_b26 | exact ne_b26_b6.symm | (show ¬ b6 = b26; omega))
   replace B14 := B14.only hO55 (by first | exact ne_b11_b26 | exact ne_b26_b11.symm | (show ¬ b11 = b26; omega))
   replace hQ24 := hQ24.only hO55 (Apart.ne1 ap_Q21_b26)
   replace hF := hF.loc hO55 (.inr g_b26)
   replace B29 := hBq
   clear hBq
   refine wpList_nil ?_
   refine fx_next ?_
   refine wp_seq ?_
   refine wp_region_lit ?_
   refine fx_val (v := .pointer (some ⟨b26, 9, none⟩)) fr rfl rfl (by decide) (x_fieldAddr fo42_6 rfl (fr.ev rfl) rfl) ?_
   clear fr a; intro a fr
   refine fx_store1 sz4 rfl rfl rfl (fr.ev rfl) rfl rfl B29 (show 9 < 11 by decide) (cs' := entA (Ent.mk ((entOf E m.line.toNat).asks) sh0 ((entOf E m.line.toNat).busy) ((entOf E m.line.toNat).asks) ((entOf E m.line.toNat).kind) ((entOf E m.line.toNat).waits - 1) true ((entOf E m.line.toNat).q)) (.slice Q21 ((entOf E m.line.toNat).q.length) qc22)) rfl fun w56 hO57 hBq => ?_
   replace H := H.only hO57 (ne1P ap_FpR_b26)
   replace B4 := B4.only hO57 (by first | exact ne_b1_b26 | exact ne_b26_b1.symm | (show ¬ b1 = b26; omega))
   replace B9 := B9.only hO57 (by first | exact ne_b6_b26 | exact ne_b26_b6.symm | (show ¬ b6 = b26; omega))
   replace B14 := B14.only hO57 (by first | exact ne_b11_b26 | exact ne_b26_b11.symm | (show ¬ b11 = b26; omega))
   replace hQ24 := hQ24.only hO57 (Apart.ne1 ap_Q21_b26)
   replace hF := hF.loc hO57 (.inr g_b26)
   replace B29 := hBq
   clear hBq
   refine wpList_nil ?_
   refine fx_next ?_
   refine wp_seq ?_
   refine fx_heldT (n := 11) (k := 11) (fun w => RefAt w FpR A cap B cb (HD.mk bs E) X ∧ Blk w b1 28 (#[.slice A bs.length cap, .slice B E.length cb]) ∧ Blk w b6 36 (msgE.arr m) ∧ View msgE w Q21 qc22 ((entOf E m.line.toNat).q) ∧ Blk w b26 42 (entA (Ent.mk ((entOf E m.line.toNat).asks) sh0 ((entOf E m.line.toNat).busy) ((entOf E m.line.toNat).asks) ((entOf E m.line.toNat).kind) ((entOf E m.line.toNat).waits - 1) true ((entOf E m.line.toNat).q)) (.slice Q21 ((entOf E m.line.toNat).q.length) qc22)) ∧ True) (by kernel_rfl) (by kernel_rfl) rfl ?_
   intro w58 hN59
   replace H := H.new hN59
   replace B4 := B4.new hN59
   replace B9 := B9.new hN59
   replace B14 := B14.new hN59
   replace hQ24 := hQ24.new hN59
   replace B29 := B29.new hN59
   replace hF := hF.trNew hN59
   refine fx_take (i := 0) (v := .agg (#[.slice A bs.length cap, .slice B E.length cb])) fr rfl (by kernel_rfl) rfl rfl (by decide) (fun _ _ _ h => h) (fun _ ⟨H, B4, B9, hQ24, B29, _⟩ => x_loadS ag28 rfl (fr.ev rfl) rfl B4.range) ⟨H, B4, B9, hQ24, B29, trivial⟩ ?_
   clear fr a; intro a fr
   refine fx_take (i := 1) (v := .int .u32 m.line) fr rfl (by kernel_rfl) rfl rfl (by decide) (fun _ _ _ h => h) (fun _ ⟨H, B4, B9, hQ24, B29, _⟩ => x_move rfl (fr.ev rfl)) ⟨H, B4, B9, hQ24, B29, trivial⟩ ?_
   clear fr a; intro a fr
   refine fx_take (i := 2) (v := .agg (entA (Ent.mk ((entOf E m.line.toNat).asks) sh0 ((entOf E m.line.toNat).busy) ((entOf E m.line.toNat).asks) ((entOf E m.line.toNat).kind) ((entOf E m.line.toNat).waits - 1) true ((entOf E m.line.toNat).q)) (.slice Q21 ((entOf E m.line.toNat).q.length) qc22))) fr rfl (by kernel_rfl) rfl rfl (by decide) (fun _ _ _ h => h) (fun _ ⟨H, B4, B9, hQ24, B29, _⟩ => x_loadS ag42 rfl (fr.ev rfl) rfl B29.range) ⟨H, B4, B9, hQ24, B29, trivial⟩ ?_
   clear fr a; intro a fr
   refine fx_take (i := 4) (v := .agg (#[.slice A bs.length cap, .slice B E.length cb])) fr rfl (by kernel_rfl) rfl rfl (by decide) (fun _ _ _ h => h) (fun _ ⟨H, B4, B9, hQ24, B29, _⟩ => x_loadS ag28 rfl (fr.ev rfl) rfl B4.range) ⟨H, B4, B9, hQ24, B29, trivial⟩ ?_
   clear fr a; intro a fr
   refine fx_take (i := 5) (v := .pointer (some ⟨b26, 6, none⟩)) fr rfl (by kernel_rfl) rfl rfl (by decide) (fun _ _ _ h => h) (fun _ ⟨H, B4, B9, hQ24, B29, _⟩ => x_fieldAddr fo42_3 rfl (fr.ev rfl) rfl) ⟨H, B4, B9, hQ24, B29, trivial⟩ ?_
   clear fr a; intro a fr
   refine fx_take (i := 6) (v := .int .i64 ((entOf E m.line.toNat).asks)) fr rfl (by kernel_rfl) rfl rfl (by decide) (fun _ _ _ h => h) (fun _ ⟨H, B4, B9, hQ24, B29, _⟩ => x_load1 pl3 rfl (fr.ev rfl) (B29.cell 6 rfl)) ⟨H, B4, B9, hQ24, B29, trivial⟩ ?_
   clear fr a; intro a fr
   refine fx_take (i := 7) (v := .int .u32 m.line) fr rfl (by kernel_rfl) rfl rfl (by decide) (fun _ _ _ h => h) (fun _ ⟨H, B4, B9, hQ24, B29, _⟩ => x_move rfl (fr.ev rfl)) ⟨H, B4, B9, hQ24, B29, trivial⟩ ?_
   clear fr a; intro a fr
   refine fx_one (i := 3) (by kernel_rfl) (fx_op rfl ?_)
   refine fx_call fr rfl rfl (by decide) (x_call (vs := [.agg (#[.slice A bs.length cap, .slice B E.length cb]), .int .u32 m.line, .agg (entA (Ent.mk ((entOf E m.line.toNat).asks) sh0 ((entOf E m.line.toNat).busy) ((entOf E m.line.toNat).asks) ((entOf E m.line.toNat).kind) ((entOf E m.line.toNat).waits - 1) true ((entOf E m.line.toNat).q)) (.slice Q21 ((entOf E m.line.toNat).q.length) qc22))]) rfl rfl ⟨(fr.ev rfl), (fr.ev rfl), (fr.ev rfl), trivial⟩ Try.func40 nm40 rfl) (rwith_r m.line m.hn (Ent.mk ((entOf E m.line.toNat).asks) sh0 ((entOf E m.line.toNat).busy) ((entOf E m.line.toNat).asks) ((entOf E m.line.toNat).kind) ((entOf E m.line.toNat).waits - 1) true ((entOf E m.line.toNat).q)) Q21 qc22 H (by omega) (by omega) hQ24) ?_
   clear fr a
   rintro v w65 ⟨B60, cb61, FpR62, rfl, H63, mv64, hN66⟩ a fr
   have ap_FpR62_b1 : ¬ FpR62 b1 := moved_apartP mv64 (fun h => h.elim ap_FpR_b1 ap_Q21_b1) B4.lt
   have ap_FpR62_b6 : ¬ FpR62 b6 := moved_apartP mv64 (fun h => h.elim ap_FpR_b6 ap_Q21_b6) B9.lt
   have ap_FpR62_b11 : ¬ FpR62 b11 := moved_apartP mv64 (fun h => h.elim ap_FpR_b11 ap_Q21_b11) B14.lt
   have ap_FpR62_b26 : ¬ FpR62 b26 := moved_apartP mv64 (fun h => h.elim ap_FpR_b26 ap_Q21_b26) B29.lt
   have mF_FpR62 : ∀ g, FpR62 g → FpR g ∨ w.heap.size ≤ g := fun g hg => (mv64 g hg).elim (fun h => h.elim (mF_FpR g) (mQ_Q21 g)) (fun h => .inr (Nat.le_trans hF.size h))
   replace H := H.new hN66
   replace B4 := B4.new hN66
   replace B9 := B9.new hN66
   replace B14 := B14.new hN66
   replace hQ24 := hQ24.new hN66
   replace B29 := B29.new hN66
   replace hF := hF.trNew hN66
   have hel67 : (E.set m.line.toNat (Ent.mk ((entOf E m.line.toNat).asks) sh0 ((entOf E m.line.toNat).busy) ((entOf E m.line.toNat).asks) ((entOf E m.line.toNat).kind) ((entOf E m.line.toNat).waits - 1) true ((entOf E m.line.toNat).q))).length = E.length := List.length_set
   have hxl68 := H63.len
   simp only [List.length_set] at hxl68
   refine wpList_nil ?_
   refine ⟨⟨H, B4, B9, hQ24, B29, trivial⟩, ?_⟩
   refine fx_one (i := 8) (by kernel_rfl) (fx_op rfl ?_)
   refine fx_call fr rfl rfl (by decide) (x_call (vs := [.agg (#[.slice A bs.length cap, .slice B E.length cb]), .int .i64 10, .int .i64 ((entOf E m.line.toNat).asks), .int .u32 m.line]) rfl rfl ⟨(fr.ev rfl), rfl, (fr.ev rfl), (fr.ev rfl), trivial⟩ Try.func45 nm45 rfl) (rsend_b m.line m.hn 10 ((entOf E m.line.toNat).asks) (bs := bs) H.vb (by omega) (by omega) (by omega)) ?_
   clear fr a
   rintro v w69 ⟨rfl, hN70⟩ a fr
   replace H := H.new hN70
   replace B4 := B4.new hN70
   replace B9 := B9.new hN70
   replace B14 := B14.new hN70
   replace hQ24 := hQ24.new hN70
   replace B29 := B29.new hN70
   replace H63 := H63.new hN70
   replace hF := hF.trNew hN70
   refine wpList_nil ?_
   refine ⟨⟨H, B4, B9, hQ24, B29, trivial⟩, ?_⟩
   refine fx_two (i := 9) (j := 10) (by kernel_rfl) (fx_op rfl ?_) (fx_op rfl ?_)
   ·skip
    refine fx_build1 (E := msgE) (p := (mkM 10 4 ((entOf E m.line.toNat).asks) m.line (lineB bs m.line) m.hn)) elMsg (by decide) fr rfl rfl (by decide) rfl (fr.ev rfl) ?_
    clear fr a
    intro A71 w72 hN73 O74 hA75 a fr
    have ap2_FpR_A71 : ∀ k, FpR k → inA A71 k → False := symP (new_apart2P hA75 fun _ hg => H.lt hg)
    have ap_A71_b1 : Apart A71 b1 := new_apart hA75 B4.lt
    have ap_A71_b6 : Apart A71 b6 := new_apart hA75 B9.lt
    have ap_A71_b11 : Apart A71 b11 := new_apart hA75 B14.lt
    have ap2_Q21_A71 : Apart2 Q21 A71 := (new_apart2 hA75 fun _ hg => hQ24.lt hg).symm
    have ap_A71_b26 : Apart A71 b26 := new_apart hA75 B29.lt
    have ap2_FpR62_A71 : ∀ k, FpR62 k → inA A71 k → False := symP (new_apart2P hA75 fun _ hg => H63.lt hg)
    have gA_A71 := gA_new hF hA75
    have gN_A71 := fun g (hg : inA A71 g) => Nat.le_trans hF.size (hA75 g hg)
    replace H := H.new hN73
    replace B4 := B4.new hN73
    replace B9 := B9.new hN73
    replace B14 := B14.new hN73
    replace hQ24 := hQ24.new hN73
    replace B29 := B29.new hN73
    replace H63 := H63.new hN73
    replace hF := hF.trNew hN73
    refine wpList_nil ?_
    refine ⟨⟨H, B4, B9, hQ24, B29, trivial⟩, ?_⟩
    refine fx_one (i := 10) (by kernel_rfl) (fx_op rfl ?_)
    refine fx_storeS sz28 rfl rfl rfl (fr.ev rfl) (fr.ev rfl) (by simp [Value.oneCell']) B14 rfl rfl fun w76 hO77 hBq => ?_
    replace H := H.only hO77 (ne1P ap_FpR_b11)
    replace B4 := B4.only hO77 (by first | exact ne_b1_b11 | exact ne_b11_b1.symm | (show ¬ b1 = b11; omega))
    replace B9 := B9.only hO77 (by first | exact ne_b6_b11 | exact ne_b11_b6.symm | (show ¬ b6 = b11; omega))
    replace hQ24 := hQ24.only hO77 (Apart.ne1 ap_Q21_b11)
    replace B29 := B29.only hO77 (by first | exact ne_b26_b11 | exact ne_b11_b26.symm | (show ¬ b26 = b11; omega))
    replace H63 := H63.only hO77 (ne1P ap_FpR62_b11)
    replace O74 := O74.only hO77 (Apart.ne1 ap_A71_b11)
    replace hF := hF.loc hO77 (.inr g_b11)
    replace B14 := hBq
    clear hBq
    refine wpList_nil ?_
    refine ⟨⟨H, B4, B9, hQ24, B29, trivial⟩, ?_⟩
    refine fx_hdone (by kernel_rfl) ?_
    refine fx_tail ?_
    refine fx_val (v := .slice A71 1 1) fr rfl rfl (by decide) (x_assign rfl (fr.ev rfl)) ?_
    clear fr a; intro a fr
    refine fx_val (v := .int .i64 0) fr rfl rfl (by decide) (x_assign rfl rfl) ?_
    clear fr a; intro a fr
    refine wpList_nil ?_
    refine fx_next ?_
    refine wp_ret ?_
    refine fx_ret fr [.cell 4 28, .tmp 5, .tmp 6] [.agg (#[.slice A bs.length cap, .slice B60 ((E.set m.line.toNat (Ent.mk ((entOf E m.line.toNat).asks) sh0 ((entOf E m.line.toNat).busy) ((entOf E m.line.toNat).asks) ((entOf E m.line.toNat).kind) ((entOf E m.line.toNat).waits - 1) true ((entOf E m.line.toNat).q))).length) cb61]), .slice A71 1 1, .int .i64 0] rfl ⟨⟨_, rfl, x_loadV ag28 rfl B14.range⟩, rfl, rfl, trivial⟩ rfl ?_
    have hst : strayF (entOf E m.line.toNat) m = false := by rw [stray_12 hk1]; simpa only [Bool.or_false, Bool.false_or] using hc33
    have hw1 : 1 ≤ (entOf E m.line.toNat).waits := by have h9 := hst; simp [strayF, hk1] at h9; omega
    rw [other_a1 hk1 (by omega)]
    have hw2 : (entOf E m.line.toNat).waits - 1 = 0 := by omega
    rw [hw2] at H63
    exact ⟨_, rfl, .inr ⟨hst, A, cap, B60, cb61, FpR62, A71, 1, (by rw [hw2]; first | done | rfl), ⟨_, H63⟩, O74, mF_FpR62, gN_A71, ap2_FpR62_A71, hF⟩⟩
   ·skip
    refine fx_storeS sz28 rfl rfl rfl (fr.ev rfl) (fr.ev rfl) (by simp [Value.oneCell']) B14 rfl rfl fun w78 hO79 hBq => ?_
    replace H := H.only hO79 (ne1P ap_FpR_b11)
    replace B4 := B4.only hO79 (by first | exact ne_b1_b11 | exact ne_b11_b1.symm | (show ¬ b1 = b11; omega))
    replace B9 := B9.only hO79 (by first | exact ne_b6_b11 | exact ne_b11_b6.symm | (show ¬ b6 = b11; omega))
    replace hQ24 := hQ24.only hO79 (Apart.ne1 ap_Q21_b11)
    replace B29 := B29.only hO79 (by first | exact ne_b26_b11 | exact ne_b11_b26.symm | (show ¬ b26 = b11; omega))
    replace H63 := H63.only hO79 (ne1P ap_FpR62_b11)
    replace hF := hF.loc hO79 (.inr g_b11)
    replace B14 := hBq
    clear hBq
    refine wpList_nil ?_
    refine ⟨⟨H, B4, B9, hQ24, B29, trivial⟩, ?_⟩
    refine fx_one (i := 9) (by kernel_rfl) (fx_op rfl ?_)
    refine fx_build1 (E := msgE) (p := (mkM 10 4 ((entOf E m.line.toNat).asks) m.line (lineB bs m.line) m.hn)) elMsg (by decide) fr rfl rfl (by decide) rfl (fr.ev rfl) ?_
    clear fr a
    intro A80 w81 hN82 O83 hA84 a fr
    have ap2_FpR_A80 : ∀ k, FpR k → inA A80 k → False := symP (new_apart2P hA84 fun _ hg => H.lt hg)
    have ap_A80_b1 : Apart A80 b1 := new_apart hA84 B4.lt
    have ap_A80_b6 : Apart A80 b6 := new_apart hA84 B9.lt
    have ap2_Q21_A80 : Apart2 Q21 A80 := (new_apart2 hA84 fun _ hg => hQ24.lt hg).symm
    have ap_A80_b26 : Apart A80 b26 := new_apart hA84 B29.lt
    have ap2_FpR62_A80 : ∀ k, FpR62 k → inA A80 k → False := symP (new_apart2P hA84 fun _ hg => H63.lt hg)
    have ap_A80_b11 : Apart A80 b11 := new_apart hA84 B14.lt
    have gA_A80 := gA_new hF hA84
    have gN_A80 := fun g (hg : inA A80 g) => Nat.le_trans hF.size (hA84 g hg)
    replace H := H.new hN82
    replace B4 := B4.new hN82
    replace B9 := B9.new hN82
    replace hQ24 := hQ24.new hN82
    replace B29 := B29.new hN82
    replace H63 := H63.new hN82
    replace B14 := B14.new hN82
    replace hF := hF.trNew hN82
    refine wpList_nil ?_
    refine ⟨⟨H, B4, B9, hQ24, B29, trivial⟩, ?_⟩
    refine fx_hdone (by kernel_rfl) ?_
    refine fx_tail ?_
    refine fx_val (v := .slice A80 1 1) fr rfl rfl (by decide) (x_assign rfl (fr.ev rfl)) ?_
    clear fr a; intro a fr
    refine fx_val (v := .int .i64 0) fr rfl rfl (by decide) (x_assign rfl rfl) ?_
    clear fr a; intro a fr
    refine wpList_nil ?_
    refine fx_next ?_
    refine wp_ret ?_
    refine fx_ret fr [.cell 4 28, .tmp 5, .tmp 6] [.agg (#[.slice A bs.length cap, .slice B60 ((E.set m.line.toNat (Ent.mk ((entOf E m.line.toNat).asks) sh0 ((entOf E m.line.toNat).busy) ((entOf E m.line.toNat).asks) ((entOf E m.line.toNat).kind) ((entOf E m.line.toNat).waits - 1) true ((entOf E m.line.toNat).q))).length) cb61]), .slice A80 1 1, .int .i64 0] rfl ⟨⟨_, rfl, x_loadV ag28 rfl B14.range⟩, rfl, rfl, trivial⟩ rfl ?_
    have hst : strayF (entOf E m.line.toNat) m = false := by rw [stray_12 hk1]; simpa only [Bool.or_false, Bool.false_or] using hc33
    have hw1 : 1 ≤ (entOf E m.line.toNat).waits := by have h9 := hst; simp [strayF, hk1] at h9; omega
    rw [other_a1 hk1 (by omega)]
    have hw2 : (entOf E m.line.toNat).waits - 1 = 0 := by omega
    rw [hw2] at H63
    exact ⟨_, rfl, .inr ⟨hst, A, cap, B60, cb61, FpR62, A80, 1, (by rw [hw2]; first | done | rfl), ⟨_, H63⟩, O83, mF_FpR62, gN_A80, ap2_FpR62_A80, hF⟩⟩
set_option maxRecDepth 100000 in
set_option maxHeartbeats 4000000 in
theorem rtake_13 (m : Msg) {w : World} {FpR : Nat → Prop} {A : Option Addr} {cap : Nat} {B : Option Addr} {cb : Nat} {bs : List UInt8} {E : List Ent} {X : List EC} (H : RefAt w FpR A cap B cb ⟨bs, E⟩ X) (hk : m.line.toNat < E.length) (hEb : E.length = bs.length / 16) (hb4 : bs.length ≤ 4096) (hsrc : 0 ≤ m.src ∧ m.src < 4) (hc1 : ¬ chk m ≠ 0) (hc2 : ¬ m.dst ≠ 4) (hk1 : m.kind = 13) (hq : ∀ x ∈ (entOf E m.line.toNat).q, QOk m.line x) (hql : (entOf E m.line.toNat).q.length ≤ 100000) (hask : 0 ≤ (entOf E m.line.toNat).asks ∧ (entOf E m.line.toNat).asks < 4) (hw : 0 ≤ (entOf E m.line.toNat).waits ∧ (entOf E m.line.toNat).waits ≤ 4) : Calls Try.prog 19 #[.agg (#[.slice A bs.length cap, .slice B E.length cb]), .agg (msgE.arr m)] w (Ret fun v w' => (strayF (entOf E m.line.toNat) m = true ∧ v = .tuple #[.agg #[.slice A bs.length cap, .slice B E.length cb], .slice none 0 0, .int .i64 220] ∧ New w w') ∨ (strayF (entOf E m.line.toNat) m = false ∧ ∃ A' c' B' cb' F' M mc, v = .tuple #[.agg #[.slice A' (otherF bs (entOf E m.line.toNat) m).2.1.length c', .slice B' (E.set m.line.toNat (otherF bs (entOf E m.line.toNat) m).1).length cb'], .slice M (otherF bs (entOf E m.line.toNat) m).2.2.length mc, .int .i64 0] ∧ RefH w' F' A' c' B' cb' ⟨(otherF bs (entOf E m.line.toNat) m).2.1, E.set m.line.toNat (otherF bs (entOf E m.line.toNat) m).1⟩ ∧ Own msgE w' M mc (otherF bs (entOf E m.line.toNat) m).2.2 ∧ (∀ g, F' g → FpR g ∨ w.heap.size ≤ g) ∧ (∀ g, inA M g → w.heap.size ≤ g) ∧ (∀ g, F' g → inA M g → False) ∧ New w w')) := by
 have hmn := m.hn
 have hXl : X.length = E.length := H.len
 have mF_FpR : ∀ g, FpR g → FpR g ∨ w.heap.size ≤ g := fun g h => .inl h
 have hc3 : ¬ ((E.length : Nat) : Int) ≤ ((m.line.toNat : Nat) : Int) := by omega
 have hF := Only.refl (fun _ => False) w
 refine fx_enter Try.func19 rfl (N := (197, [])) (T := [(0, .agg (#[.slice A bs.length cap, .slice B E.length cb])), (1, .agg (msgE.arr m))]) rfl (show 2 ≤ 197 by decide) ⟨rfl, rfl, trivial⟩ fun a fr => ?_
 refine wp_seq ?_
 refine wp_region_lit ?_
 refine fx_new fr rfl rfl (by decide) (x_box (cs := #[.slice A bs.length cap, .slice B E.length cb]) rfl (fr.ev rfl) rfl) ?_
 clear fr a
 intro b1 w2 hN3 B4 hb5 a fr
 have ap_FpR_b1 : ¬ FpR b1 := H.apart hb5
 have g_b1 := Nat.le_trans hF.size hb5
 replace H := H.new hN3
 replace hF := hF.trNew hN3
 refine fx_new fr rfl rfl (by decide) (x_box (cs := msgE.arr m) rfl (fr.ev rfl) rfl) ?_
 clear fr a
 intro b6 w7 hN8 B9 hb10 a fr
 have ap_FpR_b6 : ¬ FpR b6 := H.apart hb10
 have ne_b1_b6 : NE b1 b6 := NE.mk (Nat.lt_of_lt_of_le B4.lt hb10)
 have g_b6 := Nat.le_trans hF.size hb10
 replace H := H.new hN8
 replace B4 := B4.new hN8
 replace hF := hF.trNew hN8
 refine fx_new fr rfl rfl (by decide) (x_alloc (z := .agg (#[.slice none 0 0, .slice none 0 0])) (cs := #[.slice none 0 0, .slice none 0 0]) rfl (by kernel_rfl) rfl) ?_
 clear fr a
 intro b11 w12 hN13 B14 hb15 a fr
 have ap_FpR_b11 : ¬ FpR b11 := H.apart hb15
 have ne_b1_b11 : NE b1 b11 := NE.mk (Nat.lt_of_lt_of_le B4.lt hb15)
 have ne_b6_b11 : NE b6 b11 := NE.mk (Nat.lt_of_lt_of_le B9.lt hb15)
 have g_b11 := Nat.le_trans hF.size hb15
 replace H := H.new hN13
 replace B4 := B4.new hN13
 replace B9 := B9.new hN13
 replace hF := hF.trNew hN13
 refine fx_val (v := .slice none 0 0) fr rfl rfl (by decide) (x_assign rfl rfl) ?_
 clear fr a; intro a fr
 refine fx_val (v := .int .i64 0) fr rfl rfl (by decide) (x_assign rfl rfl) ?_
 clear fr a; intro a fr
 refine wpList_nil ?_
 refine fx_next ?_
 refine wp_seq ?_
 refine wp_seq ?_
 refine wp_region_lit ?_
 refine fx_val (v := .agg (msgE.arr m)) fr rfl rfl (by decide) (x_loadE (E := msgE) ag36 rfl rfl (fr.ev rfl) (B9.rangeE msgE)) ?_
 clear fr a; intro a fr
 refine fx_call fr rfl rfl (by decide) (x_call (vs := [.agg (msgE.arr m)]) rfl rfl ⟨(fr.ev rfl), trivial⟩ Try.func39 nm39 rfl) (refchk_c m _) ?_
 clear fr a
 rintro v w16 ⟨rfl, hN17⟩ a fr
 replace H := H.new hN17
 replace B4 := B4.new hN17
 replace B9 := B9.new hN17
 replace B14 := B14.new hN17
 replace hF := hF.trNew hN17
 refine fx_val (v := .bool false) fr rfl rfl (by decide) (x_neq rfl (fr.ev rfl) rfl (decide_eq_false hc1)) ?_
 clear fr a; intro a fr
 refine fx_val (v := .bool false) fr rfl rfl (by decide) (x_move rfl (fr.ev rfl)) ?_
 clear fr a; intro a fr
 refine fx_val (v := .pointer (some ⟨b6, 2, none⟩)) fr (fr.want rfl rfl rfl) rfl (by decide) (x_fieldAddr fo36_2 rfl (fr.ev rfl) rfl) ?_
 clear fr a; intro a fr
 refine fx_val (v := .int .i64 m.dst) fr (fr.want rfl rfl rfl) rfl (by decide) (x_load1 pl3 rfl (fr.ev rfl) (B9.cell 2 rfl)) ?_
 clear fr a; intro a fr
 refine fx_val (v := .bool false) fr (fr.want rfl rfl rfl) rfl (by decide) (x_neq rfl (fr.ev rfl) rfl (decide_eq_false hc2)) ?_
 clear fr a; intro a fr
 refine fx_val (v := .bool false) fr rfl rfl (by decide) (x_pick_f rfl (fr.ev rfl) (fr.ev rfl)) ?_
 clear fr a; intro a fr
 refine wpList_nil ?_
 refine fx_next ?_
 refine fx_cond_f fr rfl ?_
 refine wp_skip ?_
 refine fx_next ?_
 refine wp_seq ?_
 refine wp_region_lit ?_
 refine fx_val (v := .pointer (some ⟨b6, 3, none⟩)) fr rfl rfl (by decide) (x_fieldAddr fo36_3 rfl (fr.ev rfl) rfl) ?_
 clear fr a; intro a fr
 refine fx_val (v := .int .u32 m.line) fr rfl rfl (by decide) (x_load1 pl24 rfl (fr.ev rfl) (B9.cell 3 rfl)) ?_
 clear fr a; intro a fr
 refine fx_val (v := .int .u32 m.line) fr rfl rfl (by decide) (x_assign rfl (fr.ev rfl)) ?_
 clear fr a; intro a fr
 refine wpList_nil ?_
 refine fx_next ?_
 refine wp_seq ?_
 refine wp_seq ?_
 refine wp_region_lit ?_
 refine fx_val (v := .int .u32 m.line) fr rfl rfl (by decide) (x_move rfl (fr.ev rfl)) ?_
 clear fr a; intro a fr
 refine fx_val (v := .int .i64 ((m.line.toNat : Nat) : Int)) fr rfl rfl (by decide) (x_convert Try.underlying24 Try.underlying2 rfl (fr.ev rfl) (i64w (r := ((m.line.toNat : Nat) : Int)) (by omega) (by omega))) ?_
 clear fr a; intro a fr
 refine fx_val (v := .pointer (some ⟨b1, 1, none⟩)) fr rfl rfl (by decide) (x_fieldAddr fo28_1 rfl (fr.ev rfl) rfl) ?_
 clear fr a; intro a fr
 refine fx_val (v := .slice B E.length cb) fr rfl rfl (by decide) (x_load1 pl26 rfl (fr.ev rfl) (B4.cell 1 rfl)) ?_
 clear fr a; intro a fr
 refine fx_val (v := .int .i64 ((E.length : Nat) : Int)) fr rfl rfl (by decide) (x_len Try.underlying26 rfl (fr.ev rfl)) ?_
 clear fr a; intro a fr
 refine fx_val (v := .bool false) fr rfl rfl (by decide) (x_geq rfl (fr.ev rfl) (fr.ev rfl) (decide_eq_false hc3)) ?_
 clear fr a; intro a fr
 refine wpList_nil ?_
 refine fx_next ?_
 refine fx_cond_f fr rfl ?_
 refine wp_skip ?_
 refine fx_next ?_
 refine wp_seq ?_
 refine wp_region_lit ?_
 refine fx_val (v := .pointer (some ⟨b1, 1, none⟩)) fr rfl rfl (by decide) (x_fieldAddr fo28_1 rfl (fr.ev rfl) rfl) ?_
 clear fr a; intro a fr
 refine fx_val (v := .slice B E.length cb) fr rfl rfl (by decide) (x_load1 pl26 rfl (fr.ev rfl) (B4.cell 1 rfl)) ?_
 clear fr a; intro a fr
 refine fx_val (v := .int .u32 m.line) fr rfl rfl (by decide) (x_move rfl (fr.ev rfl)) ?_
 clear fr a; intro a fr
 refine fx_val (v := .int .i64 ((m.line.toNat : Nat) : Int)) fr rfl rfl (by decide) (x_convert Try.underlying24 Try.underlying3 rfl (fr.ev rfl) (i64w (r := ((m.line.toNat : Nat) : Int)) (by omega) (by omega))) ?_
 clear fr a; intro a fr
 obtain ⟨g18, o19, hA20⟩ := (H.ve).some_ (by first | omega | decide)
 refine fx_val (v := .pointer (some ⟨g18, o19 + m.line.toNat * 11, none⟩)) fr rfl rfl (by decide) (x_indexV Try.underlying26 sz42 rfl (fr.ev rfl) hA20 (fr.ev rfl) (by first | omega | decide) rfl) ?_
 clear fr a; intro a fr
 obtain ⟨Q21, qc22, hat23, hQ24, hQF25⟩ := H.at_ m.line.toNat (by omega)
 dsimp only at hat23 hQ24
 have mQ_Q21 := fun g (hg : inA Q21 g) => mF_FpR g (hQF25 g hg)
 have ap_Q21_b1 : Apart Q21 b1 := fun h => ap_FpR_b1 (hQF25 _ h)
 have ap_Q21_b6 : Apart Q21 b6 := fun h => ap_FpR_b6 (hQF25 _ h)
 have ap_Q21_b11 : Apart Q21 b11 := fun h => ap_FpR_b11 (hQF25 _ h)
 refine fx_val (v := .agg (entA (entOf E m.line.toNat) (.slice Q21 ((entOf E m.line.toNat).q.length) qc22))) fr rfl rfl (by decide) (x_loadE (E := ecE) (p := ecOf (entOf E m.line.toNat) Q21 qc22) ag42 rfl rfl (fr.ev rfl) (H.cell hat23 (by omega) hA20)) ?_
 clear fr a; intro a fr
 refine fx_new fr rfl rfl (by decide) (x_alloc (z := .agg (#[.int .i64 0, .bool false, .bool false, .bool false, .bool false, .bool false, .int .i64 0, .int .i64 0, .int .i64 0, .bool false, .slice none 0 0])) (cs := #[.int .i64 0, .bool false, .bool false, .bool false, .bool false, .bool false, .int .i64 0, .int .i64 0, .int .i64 0, .bool false, .slice none 0 0]) rfl (by kernel_rfl) rfl) ?_
 clear fr a
 intro b26 w27 hN28 B29 hb30 a fr
 have ap_FpR_b26 : ¬ FpR b26 := H.apart hb30
 have ne_b1_b26 : NE b1 b26 := NE.mk (Nat.lt_of_lt_of_le B4.lt hb30)
 have ne_b6_b26 : NE b6 b26 := NE.mk (Nat.lt_of_lt_of_le B9.lt hb30)
 have ne_b11_b26 : NE b11 b26 := NE.mk (Nat.lt_of_lt_of_le B14.lt hb30)
 have ap_Q21_b26 : Apart Q21 b26 := hQ24.apart hb30
 have g_b26 := Nat.le_trans hF.size hb30
 replace H := H.new hN28
 replace B4 := B4.new hN28
 replace B9 := B9.new hN28
 replace B14 := B14.new hN28
 replace hQ24 := hQ24.new hN28
 replace hF := hF.trNew hN28
 refine fx_storeS sz42 rfl rfl rfl (fr.ev rfl) (fr.ev rfl) (ent_all _ _ _ _) B29 rfl rfl fun w31 hO32 hBq => ?_
 replace H := H.only hO32 (ne1P ap_FpR_b26)
 replace B4 := B4.only hO32 (by first | exact ne_b1_b26 | exact ne_b26_b1.symm | (show ¬ b1 = b26; omega))
 replace B9 := B9.only hO32 (by first | exact ne_b6_b26 | exact ne_b26_b6.symm | (show ¬ b6 = b26; omega))
 replace B14 := B14.only hO32 (by first | exact ne_b11_b26 | exact ne_b26_b11.symm | (show ¬ b11 = b26; omega))
 replace hQ24 := hQ24.only hO32 (Apart.ne1 ap_Q21_b26)
 replace hF := hF.loc hO32 (.inr g_b26)
 replace B29 := hBq
 clear hBq
 refine wpList_nil ?_
 refine fx_next ?_
 refine wp_seq ?_
 refine wp_region_lit ?_
 refine fx_val (v := .pointer (some ⟨b6, 0, none⟩)) fr rfl rfl (by decide) (x_fieldAddr fo36_0 rfl (fr.ev rfl) rfl) ?_
 clear fr a; intro a fr
 refine fx_val (v := .int .i64 m.kind) fr rfl rfl (by decide) (x_load1 pl33 rfl (fr.ev rfl) (B9.cell 0 rfl)) ?_
 clear fr a; intro a fr
 refine fx_val (v := .int .i64 m.kind) fr rfl rfl (by decide) (x_assign rfl (fr.ev rfl)) ?_
 clear fr a; intro a fr
 refine wpList_nil ?_
 refine fx_next ?_
 refine wp_seq ?_
 refine wp_seq ?_
 refine wp_region_lit ?_
 refine fx_val (v := .int .i64 m.kind) fr rfl rfl (by decide) (x_move rfl (fr.ev rfl)) ?_
 clear fr a; intro a fr
 refine fx_val (v := .bool false) fr rfl rfl (by decide) (x_leq rfl (fr.ev rfl) rfl (decide_eq_false (by omega))) ?_
 clear fr a; intro a fr
 refine wpList_nil ?_
 refine fx_next ?_
 refine fx_cond_f fr rfl ?_
 refine wp_skip ?_
 refine fx_next ?_
 refine wp_seq ?_
 refine wp_seq ?_
 refine wp_region_lit ?_
 refine fx_val (v := .pointer (some ⟨b26, 5, none⟩)) fr rfl rfl (by decide) (x_fieldAddr fo42_2 rfl (fr.ev rfl) rfl) ?_
 clear fr a; intro a fr
 refine fx_val (v := .bool ((entOf E m.line.toNat).busy)) fr rfl rfl (by decide) (x_load1 pl4 rfl (fr.ev rfl) (B29.cell 5 rfl)) ?_
 clear fr a; intro a fr
 refine fx_val (v := .bool (!((entOf E m.line.toNat).busy))) fr rfl rfl (by decide) (x_not rfl (fr.ev rfl) rfl) ?_
 clear fr a; intro a fr
 refine fx_val (v := .bool (!((entOf E m.line.toNat).busy))) fr rfl rfl (by decide) (x_move rfl (fr.ev rfl)) ?_
 clear fr a; intro a fr
 refine fx_may (g := !(!((entOf E m.line.toNat).busy))) (v := .int .i64 m.kind) fr rfl rfl rfl (by simp) rfl (by decide) (fun hg => x_move rfl (fr.ev rfl)) ?_
 clear fr a; intro a fr
 refine fx_may (g := !(!((entOf E m.line.toNat).busy))) (v := .bool false) fr rfl rfl rfl (by simp) rfl (by decide) (fun hg => x_lss rfl ((fr.ev rfl).trans (onlyIf_t hg)) rfl (decide_eq_false (by omega))) ?_
 clear fr a; intro a fr
 refine fx_may (g := !(!((entOf E m.line.toNat).busy))) (v := .bool false) fr rfl rfl rfl (by simp) rfl (by decide) (fun hg => x_move rfl ((fr.ev rfl).trans (onlyIf_t hg))) ?_
 clear fr a; intro a fr
 refine fx_may2 (g := (!(!((entOf E m.line.toNat).busy))) && false) (v := .pointer (some ⟨b26, 8, none⟩)) fr rfl rfl rfl (by simp) rfl (by decide) (fun hg => x_fieldAddr fo42_5 rfl (fr.ev rfl) rfl) ?_
 clear fr a; intro a fr
 refine fx_may2 (g := (!(!((entOf E m.line.toNat).busy))) && false) (v := .int .i64 ((entOf E m.line.toNat).waits)) fr rfl rfl rfl (by simp) rfl (by decide) (fun hg => x_load1 pl3 rfl ((fr.ev rfl).trans (onlyIf_t hg)) (B29.cell 8 rfl)) ?_
 clear fr a; intro a fr
 refine fx_may2 (g := (!(!((entOf E m.line.toNat).busy))) && false) (v := .bool (decide ((entOf E m.line.toNat).waits < 1))) fr rfl rfl rfl (by simp) rfl (by decide) (fun hg => x_lss rfl ((fr.ev rfl).trans (onlyIf_t hg)) rfl rfl) ?_
 clear fr a; intro a fr
 refine fx_may (g := !(!((entOf E m.line.toNat).busy))) (v := .bool false) fr rfl rfl rfl (by simp) rfl (by decide) (fun hg => x_pick_f rfl ((fr.ev rfl).trans (onlyIf_t hg)) rfl) ?_
 clear fr a; intro a fr
 refine fx_val (v := .bool ((!((entOf E m.line.toNat).busy)) || false)) fr rfl rfl (by decide) (x_pick_or rfl (fr.ev rfl) (fun _ => rfl) (fun hb => ((fr.ev rfl)).trans (onlyIf_t (by simp_all))) rfl) ?_
 clear fr a; intro a fr
 refine fx_val (v := .bool ((!((entOf E m.line.toNat).busy)) || false)) fr rfl rfl (by decide) (x_move rfl (fr.ev rfl)) ?_
 clear fr a; intro a fr
 refine fx_may (g := !((!((entOf E m.line.toNat).busy)) || false)) (v := .int .i64 m.kind) fr rfl rfl rfl (by simp) rfl (by decide) (fun hg => x_move rfl (fr.ev rfl)) ?_
 clear fr a; intro a fr
 refine fx_may (g := !((!((entOf E m.line.toNat).busy)) || false)) (v := .bool false) fr rfl rfl rfl (by simp) rfl (by decide) (fun hg => x_eql rfl ((fr.ev rfl).trans (onlyIf_t hg)) rfl (decide_eq_false (by omega))) ?_
 clear fr a; intro a fr
 refine fx_may (g := !((!((entOf E m.line.toNat).busy)) || false)) (v := .bool false) fr rfl rfl rfl (by simp) rfl (by decide) (fun hg => x_move rfl ((fr.ev rfl).trans (onlyIf_t hg))) ?_
 clear fr a; intro a fr
 refine fx_may2 (g := (!((!((entOf E m.line.toNat).busy)) || false)) && false) (v := .pointer (some ⟨b26, 0, none⟩)) fr rfl rfl rfl (by simp) rfl (by decide) (fun hg => x_fieldAddr fo42_0 rfl (fr.ev rfl) rfl) ?_
 clear fr a; intro a fr
 refine fx_may2 (g := (!((!((entOf E m.line.toNat).busy)) || false)) && false) (v := .int .i64 ((entOf E m.line.toNat).o)) fr rfl rfl rfl (by simp) rfl (by decide) (fun hg => x_load1 pl3 rfl ((fr.ev rfl).trans (onlyIf_t hg)) (B29.cell 0 rfl)) ?_
 clear fr a; intro a fr
 refine fx_may2 (g := (!((!((entOf E m.line.toNat).busy)) || false)) && false) (v := .pointer (some ⟨b6, 1, none⟩)) fr rfl rfl rfl (by simp) rfl (by decide) (fun hg => x_fieldAddr fo36_1 rfl (fr.ev rfl) rfl) ?_
 clear fr a; intro a fr
 refine fx_may2 (g := (!((!((entOf E m.line.toNat).busy)) || false)) && false) (v := .int .i64 m.src) fr rfl rfl rfl (by simp) rfl (by decide) (fun hg => x_load1 pl3 rfl ((fr.ev rfl).trans (onlyIf_t hg)) (B9.cell 1 rfl)) ?_
 clear fr a; intro a fr
 refine fx_may2 (g := (!((!((entOf E m.line.toNat).busy)) || false)) && false) (v := .bool (decide ((entOf E m.line.toNat).o ≠ m.src))) fr rfl rfl rfl (by simp) rfl (by decide) (fun hg => x_neq rfl ((fr.ev rfl).trans (onlyIf_t hg)) ((fr.ev rfl).trans (onlyIf_t hg)) rfl) ?_
 clear fr a; intro a fr
 refine fx_may (g := !((!((entOf E m.line.toNat).busy)) || false)) (v := .bool false) fr rfl rfl rfl (by simp) rfl (by decide) (fun hg => x_pick_f rfl ((fr.ev rfl).trans (onlyIf_t hg)) rfl) ?_
 clear fr a; intro a fr
 refine fx_val (v := .bool (((!((entOf E m.line.toNat).busy)) || false) || false)) fr rfl rfl (by decide) (x_pick_or rfl (fr.ev rfl) (fun _ => rfl) (fun hb => ((fr.ev rfl)).trans (onlyIf_t (by simp_all))) rfl) ?_
 clear fr a; intro a fr
 refine fx_val (v := .bool (((!((entOf E m.line.toNat).busy)) || false) || false)) fr rfl rfl (by decide) (x_move rfl (fr.ev rfl)) ?_
 clear fr a; intro a fr
 refine fx_may (g := !(((!((entOf E m.line.toNat).busy)) || false) || false)) (v := .int .i64 m.kind) fr rfl rfl rfl (by simp) rfl (by decide) (fun hg => x_move rfl (fr.ev rfl)) ?_
 clear fr a; intro a fr
 refine fx_may (g := !(((!((entOf E m.line.toNat).busy)) || false) || false)) (v := .bool false) fr rfl rfl rfl (by simp) rfl (by decide) (fun hg => x_eql rfl ((fr.ev rfl).trans (onlyIf_t hg)) rfl (decide_eq_false (by omega))) ?_
 clear fr a; intro a fr
 refine fx_may (g := !(((!((entOf E m.line.toNat).busy)) || false) || false)) (v := .bool false) fr rfl rfl rfl (by simp) rfl (by decide) (fun hg => x_move rfl ((fr.ev rfl).trans (onlyIf_t hg))) ?_
 clear fr a; intro a fr
 refine fx_may2 (g := (!(((!((entOf E m.line.toNat).busy)) || false) || false)) && false) (v := .pointer (some ⟨b26, 0, none⟩)) fr rfl rfl rfl (by simp) rfl (by decide) (fun hg => x_fieldAddr fo42_0 rfl (fr.ev rfl) rfl) ?_
 clear fr a; intro a fr
 refine fx_may2 (g := (!(((!((entOf E m.line.toNat).busy)) || false) || false)) && false) (v := .int .i64 ((entOf E m.line.toNat).o)) fr rfl rfl rfl (by simp) rfl (by decide) (fun hg => x_load1 pl3 rfl ((fr.ev rfl).trans (onlyIf_t hg)) (B29.cell 0 rfl)) ?_
 clear fr a; intro a fr
 refine fx_may2 (g := (!(((!((entOf E m.line.toNat).busy)) || false) || false)) && false) (v := .bool (decide (0 ≤ (entOf E m.line.toNat).o))) fr rfl rfl rfl (by simp) rfl (by decide) (fun hg => x_geq rfl ((fr.ev rfl).trans (onlyIf_t hg)) rfl rfl) ?_
 clear fr a; intro a fr
 refine fx_may2 (g := (!(((!((entOf E m.line.toNat).busy)) || false) || false)) && false) (v := .bool (decide (0 ≤ (entOf E m.line.toNat).o))) fr rfl rfl rfl (by simp) rfl (by decide) (fun hg => x_move rfl ((fr.ev rfl).trans (onlyIf_t hg))) ?_
 clear fr a; intro a fr
 refine fx_may2 (g := ((!(((!((entOf E m.line.toNat).busy)) || false) || false)) && false) && !(decide (0 ≤ (entOf E m.line.toNat).o))) (v := .pointer (some ⟨b6, 1, none⟩)) fr rfl rfl rfl (by simp) rfl (by decide) (fun hg => x_fieldAddr fo36_1 rfl (fr.ev rfl) rfl) ?_
 clear fr a; intro a fr
 refine fx_may2 (g := ((!(((!((entOf E m.line.toNat).busy)) || false) || false)) && false) && !(decide (0 ≤ (entOf E m.line.toNat).o))) (v := .int .i64 m.src) fr rfl rfl rfl (by simp) rfl (by decide) (fun hg => x_load1 pl3 rfl ((fr.ev rfl).trans (onlyIf_t hg)) (B9.cell 1 rfl)) ?_
 clear fr a; intro a fr
 refine fx_may2 (g := ((!(((!((entOf E m.line.toNat).busy)) || false) || false)) && false) && !(decide (0 ≤ (entOf E m.line.toNat).o))) (v := .pointer (some ⟨b26, 1, none⟩)) fr rfl rfl rfl (by simp) rfl (by decide) (fun hg => x_fieldAddr fo42_1 rfl (fr.ev rfl) rfl) ?_
 clear fr a; intro a fr
 refine fx_may2 (g := ((!(((!((entOf E m.line.toNat).busy)) || false) || false)) && false) && !(decide (0 ≤ (entOf E m.line.toNat).o))) (v := .pointer (some ⟨b26, 1 + m.src.toNat, none⟩)) fr rfl rfl rfl (by simp) rfl (by decide) (fun hg => x_indexArr Try.underlying40 sz4 rfl ((fr.ev rfl).trans (onlyIf_t hg)) (((fr.ev rfl).trans (onlyIf_t hg)).trans (int_nat _ m.src (by omega))) (by omega) (by omega)) ?_
 clear fr a; intro a fr
 refine fx_may2 (g := ((!(((!((entOf E m.line.toNat).busy)) || false) || false)) && false) && !(decide (0 ≤ (entOf E m.line.toNat).o))) (v := .bool (((entOf E m.line.toNat).sh).get m.src)) fr rfl rfl rfl (by simp) rfl (by decide) (fun hg => x_load1 pl4 rfl ((fr.ev rfl).trans (onlyIf_t hg)) (B29.cell _ (ent_sh _ _ m.src (by omega) (by omega)))) ?_
 clear fr a; intro a fr
 refine fx_may2 (g := ((!(((!((entOf E m.line.toNat).busy)) || false) || false)) && false) && !(decide (0 ≤ (entOf E m.line.toNat).o))) (v := .bool (!(((entOf E m.line.toNat).sh).get m.src))) fr rfl rfl rfl (by simp) rfl (by decide) (fun hg => x_not rfl ((fr.ev rfl).trans (onlyIf_t hg)) rfl) ?_
 clear fr a; intro a fr
 refine fx_may2 (g := (!(((!((entOf E m.line.toNat).busy)) || false) || false)) && false) (v := .bool ((decide (0 ≤ (entOf E m.line.toNat).o)) || (!(((entOf E m.line.toNat).sh).get m.src)))) fr rfl rfl rfl (by simp) rfl (by decide) (fun hg => x_pick_or rfl ((fr.ev rfl).trans (onlyIf_t hg)) (fun _ => rfl) (fun hb => ((fr.ev rfl)).trans (onlyIf_t (by simp_all))) rfl) ?_
 clear fr a; intro a fr
 refine fx_may2 (g := (!(((!((entOf E m.line.toNat).busy)) || false) || false)) && false) (v := .bool ((decide (0 ≤ (entOf E m.line.toNat).o)) || (!(((entOf E m.line.toNat).sh).get m.src)))) fr rfl rfl rfl (by simp) rfl (by decide) (fun hg => x_move rfl ((fr.ev rfl).trans (onlyIf_t hg))) ?_
 clear fr a; intro a fr
 refine fx_may2 (g := ((!(((!((entOf E m.line.toNat).busy)) || false) || false)) && false) && !((decide (0 ≤ (entOf E m.line.toNat).o)) || (!(((entOf E m.line.toNat).sh).get m.src)))) (v := .pointer (some ⟨b6, 1, none⟩)) fr rfl rfl rfl (by simp) rfl (by decide) (fun hg => x_fieldAddr fo36_1 rfl (fr.ev rfl) rfl) ?_
 clear fr a; intro a fr
 refine fx_may2 (g := ((!(((!((entOf E m.line.toNat).busy)) || false) || false)) && false) && !((decide (0 ≤ (entOf E m.line.toNat).o)) || (!(((entOf E m.line.toNat).sh).get m.src)))) (v := .int .i64 m.src) fr rfl rfl rfl (by simp) rfl (by decide) (fun hg => x_load1 pl3 rfl ((fr.ev rfl).trans (onlyIf_t hg)) (B9.cell 1 rfl)) ?_
 clear fr a; intro a fr
 refine fx_may2 (g := ((!(((!((entOf E m.line.toNat).busy)) || false) || false)) && false) && !((decide (0 ≤ (entOf E m.line.toNat).o)) || (!(((entOf E m.line.toNat).sh).get m.src)))) (v := .pointer (some ⟨b26, 6, none⟩)) fr rfl rfl rfl (by simp) rfl (by decide) (fun hg => x_fieldAddr fo42_3 rfl (fr.ev rfl) rfl) ?_
 clear fr a; intro a fr
 refine fx_may2 (g := ((!(((!((entOf E m.line.toNat).busy)) || false) || false)) && false) && !((decide (0 ≤ (entOf E m.line.toNat).o)) || (!(((entOf E m.line.toNat).sh).get m.src)))) (v := .int .i64 ((entOf E m.line.toNat).asks)) fr rfl rfl rfl (by simp) rfl (by decide) (fun hg => x_load1 pl3 rfl ((fr.ev rfl).trans (onlyIf_t hg)) (B29.cell 6 rfl)) ?_
 clear fr a; intro a fr
 refine fx_may2 (g := ((!(((!((entOf E m.line.toNat).busy)) || false) || false)) && false) && !((decide (0 ≤ (entOf E m.line.toNat).o)) || (!(((entOf E m.line.toNat).sh).get m.src)))) (v := .bool (decide (m.src = (entOf E m.line.toNat).asks))) fr rfl rfl rfl (by simp) rfl (by decide) (fun hg => x_eql rfl ((fr.ev rfl).trans (onlyIf_t hg)) ((fr.ev rfl).trans (onlyIf_t hg)) rfl) ?_
 clear fr a; intro a fr
 refine fx_may2 (g := (!(((!((entOf E m.line.toNat).busy)) || false) || false)) && false) (v := .bool (((decide (0 ≤ (entOf E m.line.toNat).o)) || (!(((entOf E m.line.toNat).sh).get m.src))) || (decide (m.src = (entOf E m.line.toNat).asks)))) fr rfl rfl rfl (by simp) rfl (by decide) (fun hg => x_pick_or rfl ((fr.ev rfl).trans (onlyIf_t hg)) (fun _ => rfl) (fun hb => ((fr.ev rfl)).trans (onlyIf_t (by simp_all))) rfl) ?_
 clear fr a; intro a fr
 refine fx_may (g := !(((!((entOf E m.line.toNat).busy)) || false) || false)) (v := .bool false) fr rfl rfl rfl (by simp) rfl (by decide) (fun hg => x_pick_f rfl ((fr.ev rfl).trans (onlyIf_t hg)) rfl) ?_
 clear fr a; intro a fr
 refine fx_val (v := .bool ((((!((entOf E m.line.toNat).busy)) || false) || false) || false)) fr rfl rfl (by decide) (x_pick_or rfl (fr.ev rfl) (fun _ => rfl) (fun hb => ((fr.ev rfl)).trans (onlyIf_t (by simp_all))) rfl) ?_
 clear fr a; intro a fr
 refine fx_val (v := .bool ((((!((entOf E m.line.toNat).busy)) || false) || false) || false)) fr rfl rfl (by decide) (x_move rfl (fr.ev rfl)) ?_
 clear fr a; intro a fr
 refine fx_may (g := !((((!((entOf E m.line.toNat).busy)) || false) || false) || false)) (v := .int .i64 m.kind) fr rfl rfl rfl (by simp) rfl (by decide) (fun hg => x_move rfl (fr.ev rfl)) ?_
 clear fr a; intro a fr
 refine fx_may (g := !((((!((entOf E m.line.toNat).busy)) || false) || false) || false)) (v := .bool true) fr rfl rfl rfl (by simp) rfl (by decide) (fun hg => x_eql rfl ((fr.ev rfl).trans (onlyIf_t hg)) rfl (decide_eq_true (by omega))) ?_
 clear fr a; intro a fr
 refine fx_may (g := !((((!((entOf E m.line.toNat).busy)) || false) || false) || false)) (v := .bool true) fr rfl rfl rfl (by simp) rfl (by decide) (fun hg => x_move rfl ((fr.ev rfl).trans (onlyIf_t hg))) ?_
 clear fr a; intro a fr
 refine fx_may2 (g := (!((((!((entOf E m.line.toNat).busy)) || false) || false) || false)) && true) (v := .pointer (some ⟨b26, 9, none⟩)) fr rfl rfl rfl (by simp) rfl (by decide) (fun hg => x_fieldAddr fo42_6 rfl (fr.ev rfl) rfl) ?_
 clear fr a; intro a fr
 refine fx_may2 (g := (!((((!((entOf E m.line.toNat).busy)) || false) || false) || false)) && true) (v := .bool ((entOf E m.line.toNat).told)) fr rfl rfl rfl (by simp) rfl (by decide) (fun hg => x_load1 pl4 rfl ((fr.ev rfl).trans (onlyIf_t hg)) (B29.cell 9 rfl)) ?_
 clear fr a; intro a fr
 refine fx_may2 (g := (!((((!((entOf E m.line.toNat).busy)) || false) || false) || false)) && true) (v := .bool (!((entOf E m.line.toNat).told))) fr rfl rfl rfl (by simp) rfl (by decide) (fun hg => x_not rfl ((fr.ev rfl).trans (onlyIf_t hg)) rfl) ?_
 clear fr a; intro a fr
 refine fx_may2 (g := (!((((!((entOf E m.line.toNat).busy)) || false) || false) || false)) && true) (v := .bool (!((entOf E m.line.toNat).told))) fr rfl rfl rfl (by simp) rfl (by decide) (fun hg => x_move rfl ((fr.ev rfl).trans (onlyIf_t hg))) ?_
 clear fr a; intro a fr
 refine fx_may2 (g := ((!((((!((entOf E m.line.toNat).busy)) || false) || false) || false)) && true) && !(!((entOf E m.line.toNat).told))) (v := .pointer (some ⟨b26, 6, none⟩)) fr rfl rfl rfl (by simp) rfl (by decide) (fun hg => x_fieldAddr fo42_3 rfl (fr.ev rfl) rfl) ?_
 clear fr a; intro a fr
 refine fx_may2 (g := ((!((((!((entOf E m.line.toNat).busy)) || false) || false) || false)) && true) && !(!((entOf E m.line.toNat).told))) (v := .int .i64 ((entOf E m.line.toNat).asks)) fr rfl rfl rfl (by simp) rfl (by decide) (fun hg => x_load1 pl3 rfl ((fr.ev rfl).trans (onlyIf_t hg)) (B29.cell 6 rfl)) ?_
 clear fr a; intro a fr
 refine fx_may2 (g := ((!((((!((entOf E m.line.toNat).busy)) || false) || false) || false)) && true) && !(!((entOf E m.line.toNat).told))) (v := .pointer (some ⟨b6, 1, none⟩)) fr rfl rfl rfl (by simp) rfl (by decide) (fun hg => x_fieldAddr fo36_1 rfl (fr.ev rfl) rfl) ?_
 clear fr a; intro a fr
 refine fx_may2 (g := ((!((((!((entOf E m.line.toNat).busy)) || false) || false) || false)) && true) && !(!((entOf E m.line.toNat).told))) (v := .int .i64 m.src) fr rfl rfl rfl (by simp) rfl (by decide) (fun hg => x_load1 pl3 rfl ((fr.ev rfl).trans (onlyIf_t hg)) (B9.cell 1 rfl)) ?_
 clear fr a; intro a fr
 refine fx_may2 (g := ((!((((!((entOf E m.line.toNat).busy)) || false) || false) || false)) && true) && !(!((entOf E m.line.toNat).told))) (v := .bool (decide ((entOf E m.line.toNat).asks ≠ m.src))) fr rfl rfl rfl (by simp) rfl (by decide) (fun hg => x_neq rfl ((fr.ev rfl).trans (onlyIf_t hg)) ((fr.ev rfl).trans (onlyIf_t hg)) rfl) ?_
 clear fr a; intro a fr
 refine fx_may2 (g := (!((((!((entOf E m.line.toNat).busy)) || false) || false) || false)) && true) (v := .bool ((!((entOf E m.line.toNat).told)) || (decide ((entOf E m.line.toNat).asks ≠ m.src)))) fr rfl rfl rfl (by simp) rfl (by decide) (fun hg => x_pick_or rfl ((fr.ev rfl).trans (onlyIf_t hg)) (fun _ => rfl) (fun hb => ((fr.ev rfl)).trans (onlyIf_t (by simp_all))) rfl) ?_
 clear fr a; intro a fr
 refine fx_may (g := !((((!((entOf E m.line.toNat).busy)) || false) || false) || false)) (v := .bool ((!((entOf E m.line.toNat).told)) || (decide ((entOf E m.line.toNat).asks ≠ m.src)))) fr rfl rfl rfl (by simp) rfl (by decide) (fun hg => x_pick_t rfl ((fr.ev rfl).trans (onlyIf_t hg)) ((fr.ev rfl).trans (onlyIf_t (by rw [hg]; rfl)))) ?_
 clear fr a; intro a fr
 refine fx_val (v := .bool (((((!((entOf E m.line.toNat).busy)) || false) || false) || false) || ((!((entOf E m.line.toNat).told)) || (decide ((entOf E m.line.toNat).asks ≠ m.src))))) fr rfl rfl (by decide) (x_pick_or rfl (fr.ev rfl) (fun _ => rfl) (fun hb => ((fr.ev rfl)).trans (onlyIf_t (by simp_all))) rfl) ?_
 clear fr a; intro a fr
 refine wpList_nil ?_
 refine fx_next ?_
 refine fx_cond fr rfl (fun hc33 => ?_) (fun hc33 => ?_)
 ·skip
  have hc33s := hc33
  try simp at hc33s
  refine wp_seq ?_
  refine wp_region_lit ?_
  refine fx_val (v := .agg (#[.slice A bs.length cap, .slice B E.length cb])) fr rfl rfl (by decide) (x_loadS ag28 rfl (fr.ev rfl) rfl B4.range) ?_
  clear fr a; intro a fr
  refine fx_storeS sz28 rfl rfl rfl (fr.ev rfl) (fr.ev rfl) (by simp [Value.oneCell']) B14 rfl rfl fun w34 hO35 hBq => ?_
  replace H := H.only hO35 (ne1P ap_FpR_b11)
  replace B4 := B4.only hO35 (by first | exact ne_b1_b11 | exact ne_b11_b1.symm | (show ¬ b1 = b11; omega))
  replace B9 := B9.only hO35 (by first | exact ne_b6_b11 | exact ne_b11_b6.symm | (show ¬ b6 = b11; omega))
  replace hQ24 := hQ24.only hO35 (Apart.ne1 ap_Q21_b11)
  replace B29 := B29.only hO35 (by first | exact ne_b26_b11 | exact ne_b11_b26.symm | (show ¬ b26 = b11; omega))
  replace hF := hF.loc hO35 (.inr g_b11)
  replace B14 := hBq
  clear hBq
  refine fx_val (v := .slice none 0 0) fr rfl rfl (by decide) (x_assign rfl rfl) ?_
  clear fr a; intro a fr
  refine fx_val (v := .int .i64 220) fr rfl rfl (by decide) (x_assign rfl rfl) ?_
  clear fr a; intro a fr
  refine wpList_nil ?_
  refine fx_next ?_
  refine wp_ret ?_
  refine fx_rt ?_
  refine fx_ret fr [.cell 4 28, .tmp 5, .tmp 6] [.agg (#[.slice A bs.length cap, .slice B E.length cb]), .slice none 0 0, .int .i64 220] rfl ⟨⟨_, rfl, x_loadV ag28 rfl B14.range⟩, rfl, rfl, trivial⟩ rfl ?_
  have hst : strayF (entOf E m.line.toNat) m = true := by rw [stray_13 hk1]; simpa only [Bool.or_false, Bool.false_or] using hc33
  exact ⟨_, rfl, .inl ⟨hst, rfl, hF⟩⟩
 ·skip
  have hc33s := hc33
  try simp at hc33s
  refine wp_skip ?_
  refine fx_next ?_
  refine wp_seq ?_
  refine wp_seq ?_
  refine wp_region_lit ?_
  refine fx_val (v := .int .i64 m.kind) fr rfl rfl (by decide) (x_move rfl (fr.ev rfl)) ?_
  clear fr a; intro a fr
  refine fx_val (v := .bool true) fr rfl rfl (by decide) (x_eql rfl (fr.ev rfl) rfl (decide_eq_true (by omega))) ?_
  clear fr a; intro a fr
  refine wpList_nil ?_
  refine fx_next ?_
  refine fx_cond_t fr rfl ?_
  refine wp_seq ?_
  refine wp_region_lit ?_
  refine fx_val (v := .agg (#[.slice A bs.length cap, .slice B E.length cb])) fr rfl rfl (by decide) (x_loadS ag28 rfl (fr.ev rfl) rfl B4.range) ?_
  clear fr a; intro a fr
  refine fx_val (v := .int .u32 m.line) fr rfl rfl (by decide) (x_move rfl (fr.ev rfl)) ?_
  clear fr a; intro a fr
  refine fx_call fr rfl rfl (by decide) (x_call (vs := [.agg (#[.slice A bs.length cap, .slice B E.length cb]), .int .u32 m.line]) rfl rfl ⟨(fr.ev rfl), (fr.ev rfl), trivial⟩ Try.func42 nm42 rfl) (rfin_c m.line m.hn H hk hEb hb4 hq hql) ?_
  clear fr a
  rintro v w49 ⟨A36, cap37, B38, cb39, FpR40, M41, mc42, rfl, ⟨X43, H44⟩, O45, mv46, hM47, hap48, hN50⟩ a fr
  have ap_FpR40_b1 : ¬ FpR40 b1 := moved_apartP mv46 ap_FpR_b1 B4.lt
  have ap_FpR40_b6 : ¬ FpR40 b6 := moved_apartP mv46 ap_FpR_b6 B9.lt
  have ap_FpR40_b11 : ¬ FpR40 b11 := moved_apartP mv46 ap_FpR_b11 B14.lt
  have ap_FpR40_b26 : ¬ FpR40 b26 := moved_apartP mv46 ap_FpR_b26 B29.lt
  have mF_FpR40 : ∀ g, FpR40 g → FpR g ∨ w.heap.size ≤ g := fun g hg => (mv46 g hg).elim (mF_FpR g) (fun h => .inr (Nat.le_trans hF.size h))
  have ap2_FpR_M41 : ∀ k, FpR k → inA M41 k → False := symP (new_apart2P hM47 fun _ hg => H.lt hg)
  have ap_M41_b1 : Apart M41 b1 := new_apart hM47 B4.lt
  have ap_M41_b6 : Apart M41 b6 := new_apart hM47 B9.lt
  have ap_M41_b11 : Apart M41 b11 := new_apart hM47 B14.lt
  have ap2_Q21_M41 : Apart2 Q21 M41 := (new_apart2 hM47 fun _ hg => hQ24.lt hg).symm
  have ap_M41_b26 : Apart M41 b26 := new_apart hM47 B29.lt
  have gA_M41 := gA_new hF hM47
  have gN_M41 := fun g (hg : inA M41 g) => Nat.le_trans hF.size (hM47 g hg)
  have ap2_FpR40_M41 := hap48
  replace H := H.new hN50
  replace B4 := B4.new hN50
  replace B9 := B9.new hN50
  replace B14 := B14.new hN50
  replace hQ24 := hQ24.new hN50
  replace B29 := B29.new hN50
  replace hF := hF.trNew hN50
  refine fx_val (v := .agg (#[.slice A36 (((drainF (entOf E m.line.toNat).q bs (Ent.mk (entOf E m.line.toNat).o (entOf E m.line.toNat).sh false 0 0 0 false (entOf E m.line.toNat).q)).2.1).length) cap37, .slice B38 ((E.set m.line.toNat (drainF (entOf E m.line.toNat).q bs (Ent.mk (entOf E m.line.toNat).o (entOf E m.line.toNat).sh false 0 0 0 false (entOf E m.line.toNat).q)).1).length) cb39])) fr rfl rfl (by decide) (x_extract rfl (fr.ev rfl) rfl) ?_
  clear fr a; intro a fr
  refine fx_val (v := .slice M41 ((drainF (entOf E m.line.toNat).q bs (Ent.mk (entOf E m.line.toNat).o (entOf E m.line.toNat).sh false 0 0 0 false (entOf E m.line.toNat).q)).2.2.length) mc42) fr rfl rfl (by decide) (x_extract rfl (fr.ev rfl) rfl) ?_
  clear fr a; intro a fr
  refine fx_val (v := .int .i64 0) fr rfl rfl (by decide) (x_extract rfl (fr.ev rfl) rfl) ?_
  clear fr a; intro a fr
  refine fx_storeS sz28 rfl rfl rfl (fr.ev rfl) (fr.ev rfl) (by simp [Value.oneCell']) B14 rfl rfl fun w51 hO52 hBq => ?_
  replace H := H.only hO52 (ne1P ap_FpR_b11)
  replace B4 := B4.only hO52 (by first | exact ne_b1_b11 | exact ne_b11_b1.symm | (show ¬ b1 = b11; omega))
  replace B9 := B9.only hO52 (by first | exact ne_b6_b11 | exact ne_b11_b6.symm | (show ¬ b6 = b11; omega))
  replace hQ24 := hQ24.only hO52 (Apart.ne1 ap_Q21_b11)
  replace B29 := B29.only hO52 (by first | exact ne_b26_b11 | exact ne_b11_b26.symm | (show ¬ b26 = b11; omega))
  replace H44 := H44.only hO52 (ne1P ap_FpR40_b11)
  replace O45 := O45.only hO52 (Apart.ne1 ap_M41_b11)
  replace hF := hF.loc hO52 (.inr g_b11)
  replace B14 := hBq
  clear hBq
  refine fx_val (v := .slice M41 ((drainF (entOf E m.line.toNat).q bs (Ent.mk (entOf E m.line.toNat).o (entOf E m.line.toNat).sh false 0 0 0 false (entOf E m.line.toNat).q)).2.2.length) mc42) fr rfl rfl (by decide) (x_assign rfl (fr.ev rfl)) ?_
  clear fr a; intro a fr
  refine fx_val (v := .int .i64 0) fr rfl rfl (by decide) (x_assign rfl (fr.ev rfl)) ?_
  clear fr a; intro a fr
  refine wpList_nil ?_
  refine fx_next ?_
  refine wp_ret ?_
  refine fx_rt ?_
  refine fx_ret fr [.cell 4 28, .tmp 5, .tmp 6] [.agg (#[.slice A36 (((drainF (entOf E m.line.toNat).q bs (Ent.mk (entOf E m.line.toNat).o (entOf E m.line.toNat).sh false 0 0 0 false (entOf E m.line.toNat).q)).2.1).length) cap37, .slice B38 ((E.set m.line.toNat (drainF (entOf E m.line.toNat).q bs (Ent.mk (entOf E m.line.toNat).o (entOf E m.line.toNat).sh false 0 0 0 false (entOf E m.line.toNat).q)).1).length) cb39]), .slice M41 ((drainF (entOf E m.line.toNat).q bs (Ent.mk (entOf E m.line.toNat).o (entOf E m.line.toNat).sh false 0 0 0 false (entOf E m.line.toNat).q)).2.2.length) mc42, .int .i64 0] rfl ⟨⟨_, rfl, x_loadV ag28 rfl B14.range⟩, rfl, rfl, trivial⟩ rfl ?_
  have hst : strayF (entOf E m.line.toNat) m = false := by rw [stray_13 hk1]; simpa only [Bool.or_false, Bool.false_or] using hc33
  rw [other_d hk1]
  exact ⟨_, rfl, .inr ⟨hst, A36, cap37, B38, cb39, FpR40, M41, mc42, rfl, ⟨_, H44⟩, O45, mF_FpR40, gN_M41, ap2_FpR40_M41, hF⟩⟩
end Go.Proofs.Ytdiaemlgghfecaa
namespace Go.Proofs.Ytdiaemlgghfecaa
open Go.RowKit
def RTK (w : World) (F : Nat → Prop) (T : HD × List Msg × Int) (v : Value) (w' : World) : Prop :=
  ∃ A' c' B' cb' F' M mc, v = .tuple #[.agg #[.slice A' T.1.bs.length c', .slice B' T.1.E.length cb'], .slice M T.2.1.length mc, .int .i64 T.2.2] ∧ RefH w' F' A' c' B' cb' T.1 ∧ Own msgE w' M mc T.2.1 ∧ (∀ g, F' g → F g ∨ w.heap.size ≤ g) ∧ (∀ g, inA M g → w.heap.size ≤ g) ∧ (∀ g, F' g → inA M g → False) ∧ New w w'
theorem rtk_no {w w' : World} {F : Nat → Prop} {A B : Option Addr} {cap cb : Nat} {h : HD} {T : HD × List Msg × Int} (e : Int) (hT : T = (h, [], e)) {v : Value} (hv : v = .tuple #[.agg #[.slice A h.bs.length cap, .slice B h.E.length cb], .slice none 0 0, .int .i64 e]) (R : RefH w F A cap B cb h) (hn : New w w') : RTK w F T v w' := by
  subst hT hv
  exact ⟨A, cap, B, cb, F, none, 0, rfl, R.new hn, Own.nil, fun g hg => .inl hg, fun g hg => absurd hg (apart_none g), fun g _ hg => apart_none g hg, hn⟩
theorem rtake_c (m : Msg) {w : World} {F : Nat → Prop} {A B : Option Addr} {cap cb : Nat} {h : HD} (R : RefH w F A cap B cb h) {j : Nat} (hi : HI j h) (hj : j ≤ 100000) (hb4 : h.bs.length ≤ 4096) :
    Calls Try.prog 19 #[.agg #[.slice A h.bs.length cap, .slice B h.E.length cb], .agg (msgE.arr m)] w (Ret fun v w' => RTK w F (takeH h m) v w') := by
  obtain ⟨bs, E⟩ := h
  have R0 := R
  obtain ⟨X, H⟩ := R
  have hEb : E.length = bs.length / 16 := hi.1
  have hmn := m.hn
  by_cases h1 : chk m ≠ 0
  · refine (rtake_1 m H h1).mono ?_
    rintro e w' ⟨v, rfl, hv, hn⟩
    exact ⟨v, rfl, rtk_no 2 (by unfold takeH; rw [if_pos (.inl h1)]) hv R0 hn⟩
  by_cases h2 : m.dst ≠ 4
  · refine (rtake_2 m H h1 h2).mono ?_
    rintro e w' ⟨v, rfl, hv, hn⟩
    exact ⟨v, rfl, rtk_no 2 (by unfold takeH; rw [if_pos (.inr h2)]) hv R0 hn⟩
  have h0 : ¬ (chk m ≠ 0 ∨ m.dst ≠ 4) := fun h => h.elim h1 h2
  by_cases h3 : ((E.length : Nat) : Int) ≤ ((m.line.toNat : Nat) : Int)
  · refine (rtake_3 m H h1 h2 h3).mono ?_
    rintro e w' ⟨v, rfl, hv, hn⟩
    exact ⟨v, rfl, rtk_no 4 (by unfold takeH; rw [if_neg h0, if_pos (by show ((E.length : Nat) : Int) ≤ m.line; omega)]) hv R0 hn⟩
  have hn : m.line.toNat < E.length := by omega
  obtain ⟨hE, hNQ, hql⟩ := hi.2 _ hn
  change EI _ (entOf E m.line.toNat) at hE
  change (entOf E m.line.toNat).q.length ≤ j at hql
  obtain ⟨hhome, hsrc⟩ := chk_home (Decidable.not_not.1 h1) (Decidable.not_not.1 h2)
  unfold homeK at hhome
  simp only [Bool.or_eq_true, decide_eq_true_eq] at hhome
  have hq : ∀ x ∈ (entOf E m.line.toNat).q, QOk m.line x := fun x hx => by
    obtain ⟨a1, a2, a3⟩ := hE.ok.rest x hx
    exact ⟨a1.1, a1.2, a2, by rw [a3]; omega⟩
  have hT : takeH ⟨bs, E⟩ m = if m.kind ≤ 3 then (if (entOf E m.line.toNat).busy then (⟨bs, E.set m.line.toNat { (entOf E m.line.toNat) with q := (entOf E m.line.toNat).q ++ [m] }⟩, [], 0) else (⟨(beginF bs (entOf E m.line.toNat) m).2.1, E.set m.line.toNat (beginF bs (entOf E m.line.toNat) m).1⟩, (beginF bs (entOf E m.line.toNat) m).2.2, 0)) else if strayF (entOf E m.line.toNat) m then (⟨bs, E⟩, [], 220) else (⟨(otherF bs (entOf E m.line.toNat) m).2.1, E.set m.line.toNat (otherF bs (entOf E m.line.toNat) m).1⟩, (otherF bs (entOf E m.line.toNat) m).2.2, 0) := by
    unfold takeH
    rw [if_neg h0, if_neg (by show ¬ ((E.length : Nat) : Int) ≤ m.line; omega)]
    rfl
  by_cases hk : m.kind ≤ 3
  · refine (rtake_req m H hn hEb hb4 hsrc h1 h2 ⟨by omega, hk⟩ hq (by omega)).mono ?_
    rintro e w' ⟨v, rfl, A', c', B', cb', F', M, mc, hv, hR, hO, h4, h5, h6, h7⟩
    refine ⟨v, rfl, A', c', B', cb', F', M, mc, ?_⟩
    rw [hT, if_pos hk]
    by_cases hb : (entOf E m.line.toNat).busy = true
    · rw [if_pos hb] at hv hR hO ⊢
      exact ⟨hv, hR, hO, h4, h5, h6, h7⟩
    · rw [if_neg hb] at hv hR hO ⊢
      exact ⟨hv, hR, hO, h4, h5, h6, h7⟩
  · have hks : m.kind = 11 ∨ m.kind = 12 ∨ m.kind = 13 := by omega
    have hc : Calls Try.prog 19 #[.agg #[.slice A bs.length cap, .slice B E.length cb], .agg (msgE.arr m)] w (Ret fun v w' => (strayF (entOf E m.line.toNat) m = true ∧ v = .tuple #[.agg #[.slice A bs.length cap, .slice B E.length cb], .slice none 0 0, .int .i64 220] ∧ New w w') ∨ (strayF (entOf E m.line.toNat) m = false ∧ ∃ A' c' B' cb' F' M mc, v = .tuple #[.agg #[.slice A' (otherF bs (entOf E m.line.toNat) m).2.1.length c', .slice B' (E.set m.line.toNat (otherF bs (entOf E m.line.toNat) m).1).length cb'], .slice M (otherF bs (entOf E m.line.toNat) m).2.2.length mc, .int .i64 0] ∧ RefH w' F' A' c' B' cb' ⟨(otherF bs (entOf E m.line.toNat) m).2.1, E.set m.line.toNat (otherF bs (entOf E m.line.toNat) m).1⟩ ∧ Own msgE w' M mc (otherF bs (entOf E m.line.toNat) m).2.2 ∧ (∀ g, F' g → F g ∨ w.heap.size ≤ g) ∧ (∀ g, inA M g → w.heap.size ≤ g) ∧ (∀ g, F' g → inA M g → False) ∧ New w w')) := by
      rcases hks with hk1 | hk1 | hk1
      · exact rtake_11 m H hn hEb hb4 hsrc h1 h2 hk1 hq (by omega) hE.ok.asks hE.ok.waits
      · exact rtake_12 m H hn hEb hb4 hsrc h1 h2 hk1 hq (by omega) hE.ok.asks hE.ok.waits
      · exact rtake_13 m H hn hEb hb4 hsrc h1 h2 hk1 hq (by omega) hE.ok.asks hE.ok.waits
    refine hc.mono ?_
    rintro e w' ⟨v, rfl, ⟨hs, hv, hN⟩ | ⟨hs, A', c', B', cb', F', M, mc, hv, hR, hO, h4, h5, h6, h7⟩⟩
    · exact ⟨v, rfl, rtk_no 220 (by rw [hT, if_neg hk, if_pos hs]) hv R0 hN⟩
    · refine ⟨v, rfl, A', c', B', cb', F', M, mc, ?_⟩
      rw [hT, if_neg hk, if_neg (by rw [hs]; decide)]
      exact ⟨hv, hR, hO, h4, h5, h6, h7⟩
end Go.Proofs.Ytdiaemlgghfecaa
namespace Go.Proofs.Ytdiaemlgghfecaa
open Go.RowKit
theorem idle_step (E : List Ent) (i : Nat) (h : i < E.length) : idleB (E.take (i + 1)) = (idleB (E.take i) && !(entOf E i).busy) := by
  have he : entOf E i = E[i] := by simp [entOf, List.getD, h]
  unfold idleB
  rw [List.take_succ_eq_append_getElem h, List.all_append, he]
  simp
set_option maxRecDepth 100000 in
set_option maxHeartbeats 4000000 in
theorem same_c {w : World} {Fp FpR : Nat → Prop} {b : Nat} {h : HD} {A B : Option Addr} {cap cb : Nat} (H : HomeAt w Fp b h) (R : RefH w FpR A cap B cb h) (ap2_Fp_FpR : ∀ k, Fp k → FpR k → False) {j : Nat} (hHI : HI j h) (hj : j ≤ 100000)  : Calls Try.prog 21 #[.pointer (some ⟨b, 0, none⟩), .agg (#[.slice A h.bs.length cap, .slice B h.E.length cb])] w (Ret fun v w' => v = .bool true ∧ New w w') := by
 obtain ⟨X, R⟩ := R
 replace R : RefAt w FpR A cap B cb (HD.mk h.bs h.E) X := R
 have hXl : X.length = h.E.length := R.len
 have hHl := H.len
 have hF := Only.refl (fun _ => False) w
 refine fx_enter Try.func21 rfl (N := (71, [])) (T := [(0, .pointer (some ⟨b, 0, none⟩)), (1, .agg (#[.slice A h.bs.length cap, .slice B h.E.length cb]))]) rfl (show 2 ≤ 71 by decide) ⟨rfl, rfl, trivial⟩ fun a fr => ?_
 refine wp_seq ?_
 refine wp_region_lit ?_
 refine fx_new fr rfl rfl (by decide) (x_box (cs := #[.slice A h.bs.length cap, .slice B h.E.length cb]) rfl (fr.ev rfl) rfl) ?_
 clear fr a
 intro b1 w2 hN3 B4 hb5 a fr
 have ap_Fp_b1 : ¬ Fp b1 := H.apart hb5
 have ap_FpR_b1 : ¬ FpR b1 := R.apart hb5
 have g_b1 := Nat.le_trans hF.size hb5
 replace H := H.new hN3
 replace R := R.new hN3
 replace hF := hF.trNew hN3
 refine fx_val (v := .bool false) fr rfl rfl (by decide) (x_assign rfl rfl) ?_
 clear fr a; intro a fr
 refine wpList_nil ?_
 refine fx_next ?_
 refine wp_seq ?_
 refine wp_region_lit ?_
 refine fx_val (v := .pointer (some ⟨b, 0, none⟩)) fr rfl rfl (by decide) (x_move rfl (fr.ev rfl)) ?_
 clear fr a; intro a fr
 refine fx_call fr rfl rfl (by decide) (x_call (vs := [.pointer (some ⟨b, 0, none⟩)]) rfl rfl ⟨(fr.ev rfl), trivial⟩ Try.func24 nm24 rfl) (memory_h H) ?_
 clear fr a
 rintro v w12 ⟨bi6, ig7, cap8, rfl, hI9, hb10, hg11, hN13⟩ a fr
 have ap_Fp_bi6 : ¬ Fp bi6 := H.apart hb10
 have ap_FpR_bi6 : ¬ FpR bi6 := R.apart hb10
 have ne_b1_bi6 : NE b1 bi6 := NE.mk (Nat.lt_of_lt_of_le B4.lt hb10)
 have g_bi6 := Nat.le_trans hF.size hb10
 have ap_Fp_ig7 : ¬ Fp ig7 := H.apart hg11
 have ap_FpR_ig7 : ¬ FpR ig7 := R.apart hg11
 have ne_b1_ig7 : NE b1 ig7 := NE.mk (Nat.lt_of_lt_of_le B4.lt hg11)
 have g_ig7 := Nat.le_trans hF.size hg11
 replace H := H.new hN13
 replace R := R.new hN13
 replace B4 := B4.new hN13
 replace hF := hF.trNew hN13
 have ne_bi6_ig7 : NE bi6 ig7 := hI9.ne
 refine fx_val (v := .pointer (some ⟨bi6, 0, none⟩)) fr rfl rfl (by decide) (x_assign rfl (fr.ev rfl)) ?_
 clear fr a; intro a fr
 refine wpList_nil ?_
 refine fx_next ?_
 refine wp_seq ?_
 refine wp_seq ?_
 refine fx_held (n := 19) (fun w => HomeAt w Fp b h ∧ RefAt w FpR A cap B cb (HD.mk h.bs h.E) X ∧ Blk w b1 28 (#[.slice A h.bs.length cap, .slice B h.E.length cb]) ∧ Img 0 w bi6 ig7 cap8 h.bs ∧ True) (by kernel_rfl) rfl ?_
 intro w14 hN15
 replace H := H.new hN15
 replace R := R.new hN15
 replace B4 := B4.new hN15
 replace hI9 := hI9.new hN15
 replace hF := hF.trNew hN15
 refine fx_take (i := 0) (v := .pointer (some ⟨bi6, 0, none⟩)) fr rfl (by kernel_rfl) rfl rfl (by decide) (fun _ _ _ h => h) (fun _ ⟨H, R, B4, hI9, _⟩ => x_move rfl (fr.ev rfl)) ⟨H, R, B4, hI9, trivial⟩ ?_
 clear fr a; intro a fr
 refine fx_take (i := 1) (v := .bool false) fr rfl (by kernel_rfl) rfl rfl (by decide) (fun _ _ _ h => h) (fun _ ⟨H, R, B4, hI9, _⟩ => x_peql Try.underlying61 rfl (fr.ev rfl) rfl rfl) ⟨H, R, B4, hI9, trivial⟩ ?_
 clear fr a; intro a fr
 refine fx_take (i := 2) (v := .bool false) fr rfl (by kernel_rfl) rfl rfl (by decide) (fun _ _ _ h => h) (fun _ ⟨H, R, B4, hI9, _⟩ => x_move rfl (fr.ev rfl)) ⟨H, R, B4, hI9, trivial⟩ ?_
 clear fr a; intro a fr
 refine fx_take (i := 3) (v := .pointer (some ⟨bi6, 0, none⟩)) fr rfl (by kernel_rfl) (fr.want rfl rfl rfl) rfl (by decide) (fun _ _ _ h => h) (fun _ ⟨H, R, B4, hI9, _⟩ => x_move rfl (fr.ev rfl)) ⟨H, R, B4, hI9, trivial⟩ ?_
 clear fr a; intro a fr
 refine fx_take (i := 6) (v := .pointer (some ⟨b1, 0, none⟩)) fr rfl (by kernel_rfl) (fr.want rfl rfl rfl) rfl (by decide) (fun _ _ _ h => h) (fun _ ⟨H, R, B4, hI9, _⟩ => x_fieldAddr fo28_0 rfl (fr.ev rfl) rfl) ⟨H, R, B4, hI9, trivial⟩ ?_
 clear fr a; intro a fr
 refine fx_take (i := 7) (v := .slice A h.bs.length cap) fr rfl (by kernel_rfl) (fr.want rfl rfl rfl) rfl (by decide) (fun _ _ _ h => h) (fun _ ⟨H, R, B4, hI9, _⟩ => x_load1 pl22 rfl (fr.ev rfl) (B4.cell 0 rfl)) ⟨H, R, B4, hI9, trivial⟩ ?_
 clear fr a; intro a fr
 refine fx_take (i := 8) (v := .string (str h.bs)) fr rfl (by kernel_rfl) (fr.want rfl rfl rfl) rfl (by decide) (fun _ _ _ h => h) (fun _ ⟨H, R, B4, hI9, _⟩ => x_convStr rfl (fr.ev rfl) R.vb (by omega)) ⟨H, R, B4, hI9, trivial⟩ ?_
 clear fr a; intro a fr
 refine fx_one (i := 4) (by kernel_rfl) (fx_op rfl ?_)
 refine fx_call fr (fr.want rfl rfl rfl) rfl (by decide) (x_call (vs := [.pointer (some ⟨bi6, 0, none⟩)]) rfl rfl ⟨(fr.ev rfl), trivial⟩ Try.func46 nm46 rfl) (hbytes_c hI9) ?_
 clear fr a
 rintro v w20 ⟨A16, cap17, rfl, hVb18, hA19, hN21⟩ a fr
 have ap2_Fp_A16 : ∀ k, Fp k → inA A16 k → False := symP (new_apart2P hA19 fun _ hg => H.lt hg)
 have ap2_FpR_A16 : ∀ k, FpR k → inA A16 k → False := symP (new_apart2P hA19 fun _ hg => R.lt hg)
 have ap_A16_b1 : Apart A16 b1 := new_apart hA19 B4.lt
 have ap_A16_bi6 : Apart A16 bi6 := new_apart hA19 hI9.lt.1
 have ap_A16_ig7 : Apart A16 ig7 := new_apart hA19 hI9.lt.2
 have gA_A16 := gA_new hF hA19
 have gN_A16 := fun g (hg : inA A16 g) => Nat.le_trans hF.size (hA19 g hg)
 replace H := H.new hN21
 replace R := R.new hN21
 replace B4 := B4.new hN21
 replace hI9 := hI9.new hN21
 replace hF := hF.trNew hN21
 refine wpList_nil ?_
 refine ⟨⟨H, R, B4, hI9, trivial⟩, ?_⟩
 refine fx_one (i := 5) (by kernel_rfl) (fx_op rfl ?_)
 refine fx_val (v := .string (str h.bs)) fr (fr.want rfl rfl rfl) rfl (by decide) (x_convStr rfl (fr.ev rfl) hVb18 (by omega)) ?_
 clear fr a; intro a fr
 refine wpList_nil ?_
 refine ⟨⟨H, R, B4, hI9, trivial⟩, ?_⟩
 refine fx_take (i := 9) (v := .bool false) fr rfl (by kernel_rfl) (fr.want rfl rfl rfl) rfl (by decide) (fun _ _ _ h => h) (fun _ ⟨H, R, B4, hI9, _⟩ => x_neqStr rfl (fr.ev rfl) (fr.ev rfl)) ⟨H, R, B4, hI9, trivial⟩ ?_
 clear fr a; intro a fr
 refine fx_take (i := 10) (v := .bool false) fr rfl (by kernel_rfl) rfl rfl (by decide) (fun _ _ _ h => h) (fun _ ⟨H, R, B4, hI9, _⟩ => x_pick_f rfl (fr.ev rfl) (fr.ev rfl)) ⟨H, R, B4, hI9, trivial⟩ ?_
 clear fr a; intro a fr
 refine fx_take (i := 11) (v := .bool false) fr rfl (by kernel_rfl) rfl rfl (by decide) (fun _ _ _ h => h) (fun _ ⟨H, R, B4, hI9, _⟩ => x_move rfl (fr.ev rfl)) ⟨H, R, B4, hI9, trivial⟩ ?_
 clear fr a; intro a fr
 refine fx_take (i := 12) (v := .pointer (some ⟨b, 0, none⟩)) fr rfl (by kernel_rfl) (fr.want rfl rfl rfl) rfl (by decide) (fun _ _ _ h => h) (fun _ ⟨H, R, B4, hI9, _⟩ => x_move rfl (fr.ev rfl)) ⟨H, R, B4, hI9, trivial⟩ ?_
 clear fr a; intro a fr
 refine fx_take (i := 14) (v := .pointer (some ⟨b1, 1, none⟩)) fr rfl (by kernel_rfl) (fr.want rfl rfl rfl) rfl (by decide) (fun _ _ _ h => h) (fun _ ⟨H, R, B4, hI9, _⟩ => x_fieldAddr fo28_1 rfl (fr.ev rfl) rfl) ⟨H, R, B4, hI9, trivial⟩ ?_
 clear fr a; intro a fr
 refine fx_take (i := 15) (v := .slice B h.E.length cb) fr rfl (by kernel_rfl) (fr.want rfl rfl rfl) rfl (by decide) (fun _ _ _ h => h) (fun _ ⟨H, R, B4, hI9, _⟩ => x_load1 pl26 rfl (fr.ev rfl) (B4.cell 1 rfl)) ⟨H, R, B4, hI9, trivial⟩ ?_
 clear fr a; intro a fr
 refine fx_take (i := 16) (v := .int .i64 ((h.E.length : Nat) : Int)) fr rfl (by kernel_rfl) (fr.want rfl rfl rfl) rfl (by decide) (fun _ _ _ h => h) (fun _ ⟨H, R, B4, hI9, _⟩ => x_len Try.underlying26 rfl (fr.ev rfl)) ⟨H, R, B4, hI9, trivial⟩ ?_
 clear fr a; intro a fr
 refine fx_one (i := 13) (by kernel_rfl) (fx_op rfl ?_)
 refine fx_call fr (fr.want rfl rfl rfl) rfl (by decide) (x_call (vs := [.pointer (some ⟨b, 0, none⟩)]) rfl rfl ⟨(fr.ev rfl), trivial⟩ Try.func10 nm10 rfl) (lines_h H) ?_
 clear fr a
 rintro v w9 ⟨rfl, hw9⟩ a fr
 obtain rfl := hw9.symm
 refine wpList_nil ?_
 refine ⟨⟨H, R, B4, hI9, trivial⟩, ?_⟩
 refine fx_take (i := 17) (v := .bool false) fr rfl (by kernel_rfl) (fr.want rfl rfl rfl) rfl (by decide) (fun _ _ _ h => h) (fun _ ⟨H, R, B4, hI9, _⟩ => x_neq rfl (fr.ev rfl) (fr.ev rfl) (by simp)) ⟨H, R, B4, hI9, trivial⟩ ?_
 clear fr a; intro a fr
 refine fx_take (i := 18) (v := .bool false) fr rfl (by kernel_rfl) rfl rfl (by decide) (fun _ _ _ h => h) (fun _ ⟨H, R, B4, hI9, _⟩ => x_pick_f rfl (fr.ev rfl) (fr.ev rfl)) ⟨H, R, B4, hI9, trivial⟩ ?_
 clear fr a; intro a fr
 refine fx_hdone (by kernel_rfl) ?_
 refine fx_next ?_
 refine fx_cond_f fr rfl ?_
 refine wp_skip ?_
 refine fx_next ?_
 refine wp_seq ?_
 refine wp_region_lit ?_
 refine fx_val (v := .bool true) fr rfl rfl (by decide) (x_assign rfl rfl) ?_
 clear fr a; intro a fr
 refine wpList_nil ?_
 refine fx_next ?_
 refine wp_seq ?_
 refine wp_seq ?_
 refine wp_region_lit ?_
 refine fx_val (v := .int .i64 0) fr rfl rfl (by decide) (x_assign rfl rfl) ?_
 clear fr a; intro a fr
 refine wpList_nil ?_
 refine fx_next ?_
 refine wp_block ?_
 refine fx_loop (fun nM a wL => ∃ i : Nat, ∃ idl : Bool, nM = h.E.length - i ∧ Fr (71, []) [(0, .pointer (some ⟨b, 0, none⟩)), (3, .pointer (some ⟨b1, 0, none⟩)), (4, .bool false), (6, .bool (idl)), (7, .int .i64 ((i : Nat) : Int))] a ∧ Only (fun _ => False) w wL ∧ HomeAt wL Fp b h ∧ RefAt wL FpR A cap B cb (HD.mk h.bs h.E) X ∧ Blk wL b1 28 (#[.slice A h.bs.length cap, .slice B h.E.length cb]) ∧ i ≤ h.E.length ∧ idl = idleB (h.E.take i)) (n0 := _) ⟨0, true, rfl, fr.sub ⟨rfl, rfl, rfl, rfl, rfl, trivial⟩, hF, H, R, B4, Nat.zero_le _, rfl⟩ ?_
 rintro n25 a w24 ⟨i, idl, rfl, fr, hF, H, R, B4, hi, hidl⟩
 refine wp_seq ?_
 refine wp_seq ?_
 refine wp_region_lit ?_
 refine fx_val (v := .int .i64 ((i : Nat) : Int)) fr rfl rfl (by decide) (x_move rfl (fr.ev rfl)) ?_
 clear fr a; intro a fr
 refine fx_val (v := .pointer (some ⟨b1, 1, none⟩)) fr rfl rfl (by decide) (x_fieldAddr fo28_1 rfl (fr.ev rfl) rfl) ?_
 clear fr a; intro a fr
 refine fx_val (v := .slice B h.E.length cb) fr rfl rfl (by decide) (x_load1 pl26 rfl (fr.ev rfl) (B4.cell 1 rfl)) ?_
 clear fr a; intro a fr
 refine fx_val (v := .int .i64 ((h.E.length : Nat) : Int)) fr rfl rfl (by decide) (x_len Try.underlying26 rfl (fr.ev rfl)) ?_
 clear fr a; intro a fr
 refine fx_val (v := .bool (decide (((i : Nat) : Int) < ((h.E.length : Nat) : Int)))) fr rfl rfl (by decide) (x_lss rfl (fr.ev rfl) (fr.ev rfl) rfl) ?_
 clear fr a; intro a fr
 refine wpList_nil ?_
 refine fx_next ?_
 refine fx_cond fr rfl (fun hc26 => ?_) (fun hc26 => ?_)
 ·skip
  have hc26 := of_decide_eq_true hc26
  refine wp_skip ?_
  refine fx_next ?_
  refine wp_seq ?_
  refine wp_block ?_
  refine wp_seq ?_
  refine wp_region_lit ?_
  refine fx_val (v := .pointer (some ⟨b, 0, none⟩)) fr rfl rfl (by decide) (x_move rfl (fr.ev rfl)) ?_
  clear fr a; intro a fr
  refine fx_val (v := .int .i64 ((i : Nat) : Int)) fr rfl rfl (by decide) (x_move rfl (fr.ev rfl)) ?_
  clear fr a; intro a fr
  refine fx_val (v := .int .u32 ((i : Nat) : Int)) fr rfl rfl (by decide) (x_convert Try.underlying3 Try.underlying24 rfl (fr.ev rfl) (u32w (r := ((i : Nat) : Int)) rfl (by omega))) ?_
  clear fr a; intro a fr
  refine fx_call fr rfl rfl (by decide) (x_call (vs := [.pointer (some ⟨b, 0, none⟩), .int .u32 ((i : Nat) : Int)]) rfl rfl ⟨(fr.ev rfl), (fr.ev rfl), trivial⟩ Try.func13 nm13 rfl) (entry_h H ((i : Nat) : Int) (by omega) (by omega) (hHI.all (by omega) _)) ?_
  clear fr a
  rintro v w31 ⟨Q27, qc28, rfl, OQ29, hA30, hN32⟩ a fr
  have ap2_Fp_Q27 : ∀ k, Fp k → inA Q27 k → False := symP (new_apart2P hA30 fun _ hg => H.lt hg)
  have ap2_FpR_Q27 : ∀ k, FpR k → inA Q27 k → False := symP (new_apart2P hA30 fun _ hg => R.lt hg)
  have ap_Q27_b1 : Apart Q27 b1 := new_apart hA30 B4.lt
  have gA_Q27 := gA_new hF hA30
  have gN_Q27 := fun g (hg : inA Q27 g) => Nat.le_trans hF.size (hA30 g hg)
  replace H := H.new hN32
  replace R := R.new hN32
  replace B4 := B4.new hN32
  replace hF := hF.trNew hN32
  refine fx_val (v := .tuple #[.agg (entA (entOf h.E ((i : Nat) : Int).toNat) (.slice Q27 ((entOf h.E ((i : Nat) : Int).toNat).q.length) qc28)), .int .i64 0]) fr rfl rfl (by decide) (x_move rfl (fr.ev rfl)) ?_
  clear fr a; intro a fr
  refine fx_val (v := .agg (entA (entOf h.E ((i : Nat) : Int).toNat) (.slice Q27 ((entOf h.E ((i : Nat) : Int).toNat).q.length) qc28))) fr rfl rfl (by decide) (x_extract rfl (fr.ev rfl) rfl) ?_
  clear fr a; intro a fr
  refine fx_val (v := .int .i64 0) fr rfl rfl (by decide) (x_extract rfl (fr.ev rfl) rfl) ?_
  clear fr a; intro a fr
  refine fx_new fr rfl rfl (by decide) (x_alloc (z := .agg (#[.int .i64 0, .bool false, .bool false, .bool false, .bool false, .bool false, .int .i64 0, .int .i64 0, .int .i64 0, .bool false, .slice none 0 0])) (cs := #[.int .i64 0, .bool false, .bool false, .bool false, .bool false, .bool false, .int .i64 0, .int .i64 0, .int .i64 0, .bool false, .slice none 0 0]) rfl (by kernel_rfl) rfl) ?_
  clear fr a
  intro b33 w34 hN35 B36 hb37 a fr
  have ap_Fp_b33 : ¬ Fp b33 := H.apart hb37
  have ap_FpR_b33 : ¬ FpR b33 := R.apart hb37
  have ne_b1_b33 : NE b1 b33 := NE.mk (Nat.lt_of_lt_of_le B4.lt hb37)
  have ap_Q27_b33 : Apart Q27 b33 := OQ29.apart hb37
  have g_b33 := Nat.le_trans hF.size hb37
  replace H := H.new hN35
  replace R := R.new hN35
  replace B4 := B4.new hN35
  replace OQ29 := OQ29.new hN35
  replace hF := hF.trNew hN35
  refine fx_storeS sz42 rfl rfl rfl (fr.ev rfl) (fr.ev rfl) (ent_all _ _ _ _) B36 rfl rfl fun w38 hO39 hBq => ?_
  replace H := H.only hO39 (ne1P ap_Fp_b33)
  replace R := R.only hO39 (ne1P ap_FpR_b33)
  replace B4 := B4.only hO39 (by first | exact ne_b1_b33 | exact ne_b33_b1.symm | (show ¬ b1 = b33; omega))
  replace OQ29 := OQ29.only hO39 (Apart.ne1 ap_Q27_b33)
  replace hF := hF.loc hO39 (.inr g_b33)
  replace B36 := hBq
  clear hBq
  refine fx_val (v := .int .i64 0) fr rfl rfl (by decide) (x_assign rfl (fr.ev rfl)) ?_
  clear fr a; intro a fr
  refine wpList_nil ?_
  refine fx_next ?_
  refine wp_seq ?_
  refine wp_seq ?_
  obtain ⟨Q40, qc41, hat42, hQ43, hQF44⟩ := R.at_ i (by omega)
  dsimp only at hat42 hQ43
  have ap_Q40_b1 : Apart Q40 b1 := fun h => ap_FpR_b1 (hQF44 _ h)
  have ap2_Q40_Q27 : Apart2 Q40 Q27 := fun k h1 h2 => ap2_FpR_Q27 k (hQF44 k h1) h2
  have ap_Q40_b33 : Apart Q40 b33 := fun h => ap_FpR_b33 (hQF44 _ h)
  refine fx_held (n := 12) (fun w => HomeAt w Fp b h ∧ RefAt w FpR A cap B cb (HD.mk h.bs h.E) X ∧ Blk w b1 28 (#[.slice A h.bs.length cap, .slice B h.E.length cb]) ∧ Own msgE w Q27 qc28 ((entOf h.E ((i : Nat) : Int).toNat).q) ∧ Blk w b33 42 (entA (entOf h.E ((i : Nat) : Int).toNat) (.slice Q27 ((entOf h.E ((i : Nat) : Int).toNat).q.length) qc28)) ∧ View msgE w Q40 qc41 ((entOf h.E i).q) ∧ True) (by kernel_rfl) rfl ?_
  intro w45 hN46
  replace H := H.new hN46
  replace R := R.new hN46
  replace B4 := B4.new hN46
  replace OQ29 := OQ29.new hN46
  replace B36 := B36.new hN46
  replace hQ43 := hQ43.new hN46
  replace hF := hF.trNew hN46
  refine fx_take (i := 0) (v := .int .i64 0) fr rfl (by kernel_rfl) rfl rfl (by decide) (fun _ _ _ h => h) (fun _ ⟨H, R, B4, OQ29, B36, hQ43, _⟩ => x_move rfl (fr.ev rfl)) ⟨H, R, B4, OQ29, B36, hQ43, trivial⟩ ?_
  clear fr a; intro a fr
  refine fx_take (i := 1) (v := .bool false) fr rfl (by kernel_rfl) rfl rfl (by decide) (fun _ _ _ h => h) (fun _ ⟨H, R, B4, OQ29, B36, hQ43, _⟩ => x_neq rfl (fr.ev rfl) rfl rfl) ⟨H, R, B4, OQ29, B36, hQ43, trivial⟩ ?_
  clear fr a; intro a fr
  refine fx_take (i := 2) (v := .bool false) fr rfl (by kernel_rfl) rfl rfl (by decide) (fun _ _ _ h => h) (fun _ ⟨H, R, B4, OQ29, B36, hQ43, _⟩ => x_move rfl (fr.ev rfl)) ⟨H, R, B4, OQ29, B36, hQ43, trivial⟩ ?_
  clear fr a; intro a fr
  refine fx_take (i := 3) (v := .agg (entA (entOf h.E ((i : Nat) : Int).toNat) (.slice Q27 ((entOf h.E ((i : Nat) : Int).toNat).q.length) qc28))) fr rfl (by kernel_rfl) (fr.want rfl rfl rfl) rfl (by decide) (fun _ _ _ h => h) (fun _ ⟨H, R, B4, OQ29, B36, hQ43, _⟩ => x_loadS ag42 rfl (fr.ev rfl) rfl B36.range) ⟨H, R, B4, OQ29, B36, hQ43, trivial⟩ ?_
  clear fr a; intro a fr
  refine fx_take (i := 4) (v := .pointer (some ⟨b1, 1, none⟩)) fr rfl (by kernel_rfl) (fr.want rfl rfl rfl) rfl (by decide) (fun _ _ _ h => h) (fun _ ⟨H, R, B4, OQ29, B36, hQ43, _⟩ => x_fieldAddr fo28_1 rfl (fr.ev rfl) rfl) ⟨H, R, B4, OQ29, B36, hQ43, trivial⟩ ?_
  clear fr a; intro a fr
  refine fx_take (i := 5) (v := .slice B h.E.length cb) fr rfl (by kernel_rfl) (fr.want rfl rfl rfl) rfl (by decide) (fun _ _ _ h => h) (fun _ ⟨H, R, B4, OQ29, B36, hQ43, _⟩ => x_load1 pl26 rfl (fr.ev rfl) (B4.cell 1 rfl)) ⟨H, R, B4, OQ29, B36, hQ43, trivial⟩ ?_
  clear fr a; intro a fr
  refine fx_take (i := 6) (v := .int .i64 ((i : Nat) : Int)) fr rfl (by kernel_rfl) (fr.want rfl rfl rfl) rfl (by decide) (fun _ _ _ h => h) (fun _ ⟨H, R, B4, OQ29, B36, hQ43, _⟩ => x_move rfl (fr.ev rfl)) ⟨H, R, B4, OQ29, B36, hQ43, trivial⟩ ?_
  clear fr a; intro a fr
  obtain ⟨g47, o48, hA49⟩ := (R.ve).some_ (by first | omega | decide)
  refine fx_take (i := 7) (v := .pointer (some ⟨g47, o48 + i * 11, none⟩)) fr rfl (by kernel_rfl) (fr.want rfl rfl rfl) rfl (by decide) (fun _ _ _ h => h) (fun _ ⟨H, R, B4, OQ29, B36, hQ43, _⟩ => x_indexV Try.underlying26 sz42 rfl (fr.ev rfl) hA49 (fr.ev rfl) (by first | omega | decide) rfl) ⟨H, R, B4, OQ29, B36, hQ43, trivial⟩ ?_
  clear fr a; intro a fr
  refine fx_take (i := 8) (v := .agg (entA (entOf h.E i) (.slice Q40 ((entOf h.E i).q.length) qc41))) fr rfl (by kernel_rfl) (fr.want rfl rfl rfl) rfl (by decide) (fun _ _ _ h => h) (fun _ ⟨H, R, B4, OQ29, B36, hQ43, _⟩ => x_loadE (E := ecE) (p := ecOf (entOf h.E i) Q40 qc41) ag42 rfl rfl (fr.ev rfl) (R.cell hat42 (by omega) hA49)) ⟨H, R, B4, OQ29, B36, hQ43, trivial⟩ ?_
  clear fr a; intro a fr
  refine fx_one (i := 9) (by kernel_rfl) (fx_op rfl ?_)
  refine fx_call fr (fr.want rfl rfl rfl) rfl (by decide) (x_call (vs := [.agg (entA (entOf h.E ((i : Nat) : Int).toNat) (.slice Q27 ((entOf h.E ((i : Nat) : Int).toNat).q.length) qc28)), .agg (entA (entOf h.E i) (.slice Q40 ((entOf h.E i).q.length) qc41))]) rfl rfl ⟨(fr.ev rfl), (fr.ev rfl), trivial⟩ Try.func14 nm14 rfl) (sament_c (d := (entOf h.E ((i : Nat) : Int).toNat)) (e := (entOf h.E i)) (OQ29.view) (hQ43)) ?_
  clear fr a
  rintro v w50 ⟨rfl, hN51⟩ a fr
  replace H := H.new hN51
  replace R := R.new hN51
  replace B4 := B4.new hN51
  replace OQ29 := OQ29.new hN51
  replace B36 := B36.new hN51
  replace hQ43 := hQ43.new hN51
  replace hF := hF.trNew hN51
  rw [show decide ((entOf h.E ((i : Nat) : Int).toNat) = (entOf h.E i)) = true from decide_eq_true rfl] at fr
  refine wpList_nil ?_
  refine ⟨⟨H, R, B4, OQ29, B36, hQ43, trivial⟩, ?_⟩
  refine fx_take (i := 10) (v := .bool false) fr rfl (by kernel_rfl) (fr.want rfl rfl rfl) rfl (by decide) (fun _ _ _ h => h) (fun _ ⟨H, R, B4, OQ29, B36, hQ43, _⟩ => x_not rfl (fr.ev rfl) rfl) ⟨H, R, B4, OQ29, B36, hQ43, trivial⟩ ?_
  clear fr a; intro a fr
  refine fx_take (i := 11) (v := .bool false) fr rfl (by kernel_rfl) rfl rfl (by decide) (fun _ _ _ h => h) (fun _ ⟨H, R, B4, OQ29, B36, hQ43, _⟩ => x_pick_f rfl (fr.ev rfl) (fr.ev rfl)) ⟨H, R, B4, OQ29, B36, hQ43, trivial⟩ ?_
  clear fr a; intro a fr
  refine fx_hdone (by kernel_rfl) ?_
  refine fx_next ?_
  refine fx_cond_f fr rfl ?_
  refine wp_skip ?_
  refine fx_next ?_
  refine wp_region_lit ?_
  refine fx_val (v := .bool (idl)) fr rfl rfl (by decide) (x_move rfl (fr.ev rfl)) ?_
  clear fr a; intro a fr
  refine fx_val (v := .bool (idl)) fr rfl rfl (by decide) (x_move rfl (fr.ev rfl)) ?_
  clear fr a; intro a fr
  refine fx_may (g := (idl)) (v := .pointer (some ⟨b1, 1, none⟩)) fr rfl rfl rfl (by simp) rfl (by decide) (fun hg => x_fieldAddr fo28_1 rfl (fr.ev rfl) rfl) ?_
  clear fr a; intro a fr
  refine fx_may (g := (idl)) (v := .slice B h.E.length cb) fr rfl rfl rfl (by simp) rfl (by decide) (fun hg => x_load1 pl26 rfl ((fr.ev rfl).trans (onlyIf_t hg)) (B4.cell 1 rfl)) ?_
  clear fr a; intro a fr
  refine fx_may (g := (idl)) (v := .int .i64 ((i : Nat) : Int)) fr rfl rfl rfl (by simp) rfl (by decide) (fun hg => x_move rfl (fr.ev rfl)) ?_
  clear fr a; intro a fr
  refine fx_may (g := (idl)) (v := .pointer (some ⟨g47, o48 + i * 11, none⟩)) fr rfl rfl rfl (by simp) rfl (by decide) (fun hg => x_indexV Try.underlying26 sz42 rfl ((fr.ev rfl).trans (onlyIf_t hg)) hA49 ((fr.ev rfl).trans (onlyIf_t hg)) (by first | omega | decide) rfl) ?_
  clear fr a; intro a fr
  refine fx_may (g := (idl)) (v := .pointer (some ⟨g47, o48 + i * 11 + 5, none⟩)) fr rfl rfl rfl (by simp) rfl (by decide) (fun hg => x_fieldAddr fo42_2 rfl ((fr.ev rfl).trans (onlyIf_t hg)) rfl) ?_
  clear fr a; intro a fr
  refine fx_may (g := (idl)) (v := .bool ((entOf h.E i).busy)) fr rfl rfl rfl (by simp) rfl (by decide) (fun hg => x_load1 pl4 rfl ((fr.ev rfl).trans (onlyIf_t hg)) (range_cell (R.cell hat42 (by omega) hA49) 5 rfl rfl)) ?_
  clear fr a; intro a fr
  refine fx_may (g := (idl)) (v := .bool (!((entOf h.E i).busy))) fr rfl rfl rfl (by simp) rfl (by decide) (fun hg => x_not rfl ((fr.ev rfl).trans (onlyIf_t hg)) rfl) ?_
  clear fr a; intro a fr
  refine fx_val (v := .bool ((idl) && (!((entOf h.E i).busy)))) fr rfl rfl (by decide) (x_pick_and rfl (fr.ev rfl) (fun hb => ((fr.ev rfl)).trans (onlyIf_t (by simp_all))) (fun _ => rfl) rfl) ?_
  clear fr a; intro a fr
  refine fx_val (v := .bool ((idl) && (!((entOf h.E i).busy)))) fr rfl rfl (by decide) (x_assign rfl (fr.ev rfl)) ?_
  clear fr a; intro a fr
  refine wpList_nil ?_
  refine fx_blk ?_
  refine fx_next ?_
  refine wp_region_lit ?_
  refine fx_val (v := .int .i64 ((i : Nat) : Int)) fr rfl rfl (by decide) (x_move rfl (fr.ev rfl)) ?_
  clear fr a; intro a fr
  refine fx_val (v := .int .i64 ((i + 1 : Nat) : Int)) fr rfl rfl (by decide) (x_add rfl (fr.ev rfl) rfl (i64w (r := ((i + 1 : Nat) : Int)) (by omega) (by omega))) ?_
  clear fr a; intro a fr
  refine fx_val (v := .int .i64 ((i + 1 : Nat) : Int)) fr rfl rfl (by decide) (x_assign rfl (fr.ev rfl)) ?_
  clear fr a; intro a fr
  refine wpList_nil ?_
  refine fx_next ?_
  exact ⟨_, by omega, (i + 1), ((idl) && (!((entOf h.E i).busy))), rfl, fr.sub ⟨rfl, rfl, rfl, rfl, rfl, trivial⟩, hF, H, R, B4, by omega, (by rw [hidl, idle_step _ _ (by omega)])⟩
 ·skip
  have hc26 := of_decide_eq_false hc26
  refine wp_exit ?_
  refine fx_xt ?_
  refine fx_xt ?_
  refine fx_xx ?_
  refine fx_next ?_
  refine wp_seq ?_
  refine wp_region_lit ?_
  refine fx_val (v := .pointer (some ⟨b, 0, none⟩)) fr rfl rfl (by decide) (x_move rfl (fr.ev rfl)) ?_
  clear fr a; intro a fr
  refine fx_call fr rfl rfl (by decide) (x_call (vs := [.pointer (some ⟨b, 0, none⟩)]) rfl rfl ⟨(fr.ev rfl), trivial⟩ Try.func17 nm17 rfl) (idle_h H) ?_
  clear fr a
  rintro v w52 ⟨rfl, hN53⟩ a fr
  replace H := H.new hN53
  replace R := R.new hN53
  replace B4 := B4.new hN53
  replace hF := hF.trNew hN53
  refine fx_val (v := .bool (idl)) fr rfl rfl (by decide) (x_move rfl (fr.ev rfl)) ?_
  clear fr a; intro a fr
  refine fx_val (v := .bool ((idleB h.E) == (idl))) fr rfl rfl (by decide) (x_beql Try.underlying4 rfl (fr.ev rfl) (fr.ev rfl) rfl) ?_
  clear fr a; intro a fr
  refine fx_val (v := .bool ((idleB h.E) == (idl))) fr rfl rfl (by decide) (x_assign rfl (fr.ev rfl)) ?_
  clear fr a; intro a fr
  refine wpList_nil ?_
  refine fx_next ?_
  refine wp_ret ?_
  refine fx_ret fr [.tmp 4] [.bool ((idleB h.E) == (idl))] rfl ⟨rfl, trivial⟩ rfl ?_
  exact ⟨_, rfl, congrArg Value.bool (by rw [hidl, List.take_of_length_le (by omega)]; simp), hF⟩
theorem take_bs (h : HD) (m : Msg) : (takeH h m).1.bs.length = h.bs.length := by
  rcases take_cases h m with ⟨e, he, _⟩ | ⟨_, _, hsrc, hn, hmn, x, hx, hc⟩
  · rw [he]
  · rw [hx]
    rcases hc with ⟨a, b, c, rfl⟩ | ⟨a, b, c, rfl⟩ | ⟨a, b, rfl⟩
    · rfl
    · exact begin_bs
    · exact other_bs
end Go.Proofs.Ytdiaemlgghfecaa
namespace Go.Proofs.Ytdiaemlgghfecaa
open Go.RowKit
def role (m : Msg) : List (Nat × Int) :=
  if m.kind = 4 ∨ m.kind = 5 then [(0, m.dst)] else if m.kind = 11 then [(0, m.src)] else if m.kind = 6 then [(1, m.dst)] else if m.kind = 12 then [(1, m.src)]
  else if m.kind = 8 ∨ m.kind = 9 ∨ m.kind = 10 then [(2, m.dst)] else if m.kind = 13 then [(2, m.src)] else []
def rl (n : Int) (m : Msg) : List (Nat × Int) := if m.line = n then role m else []
def rolesOf (n : Int) (way : List Msg) : List (Nat × Int) := way.flatMap (rl n)
def qcost (m : Msg) : Nat := if m.kind = 3 then 1 else 8
def cost (m : Msg) : Nat := if m.kind = 1 ∨ m.kind = 2 then 9 else if m.kind = 3 then 2 else if m.kind = 4 ∨ m.kind = 5 ∨ m.kind = 6 ∨ m.kind = 8 ∨ m.kind = 9 ∨ m.kind = 10 then 2 else if m.kind = 7 ∨ m.kind = 11 ∨ m.kind = 12 ∨ m.kind = 13 then 1 else 0
def pend (m : Msg) : Nat := if m.kind = 1 ∨ m.kind = 2 ∨ m.kind = 3 ∨ m.kind = 7 ∨ m.kind = 8 ∨ m.kind = 9 ∨ m.kind = 10 then 1 else 0
def owes (d : Ent) : Bool := d.busy && !d.told
def sumF {α : Type} (f : α → Nat) (l : List α) : Nat := (l.map f).sum
def ecost (d : Ent) : Nat := (if owes d then 2 else 0) + sumF qcost d.q
def epend (d : Ent) : Nat := (if owes d then 1 else 0) + d.q.length
structure Good (N : Nat) (m : Msg) : Prop where
  line : m.line.toNat < N
  what : ((1 ≤ m.kind ∧ m.kind ≤ 3) ∧ m.dst = 4 ∧ (0 ≤ m.src ∧ m.src < 4) ∧ (m.kind = 3 ∨ m.bs = b16z)) ∨ ((4 ≤ m.kind ∧ m.kind ≤ 10) ∧ (0 ≤ m.dst ∧ m.dst < 4)) ∨ ((11 ≤ m.kind ∧ m.kind ≤ 13) ∧ m.dst = 4 ∧ (0 ≤ m.src ∧ m.src < 4) ∧ (m.kind = 11 ∨ m.bs = b16z))
def Exp (d : Ent) (R : List (Nat × Int)) : Prop :=
  (d.busy = false ∧ R = []) ∨ (d.busy = true ∧ d.told = true ∧ R = [(2, d.asks)]) ∨ (d.busy = true ∧ d.told = false ∧ 0 ≤ d.o ∧ d.waits = 1 ∧ R = [(0, d.o)]) ∨
  (d.busy = true ∧ d.told = false ∧ d.o < 0 ∧ 1 ≤ d.waits ∧ ∃ C : List Int, R.Perm (C.map (Prod.mk 1)) ∧ C.Nodup ∧ ((C.length : Nat) : Int) = d.waits ∧ ∀ c ∈ C, d.sh.get c = true ∧ c ≠ d.asks)
section
variable {α : Type}
theorem sumF_nil (f : α → Nat) : sumF f [] = 0 := rfl
theorem sumF_cons (f : α → Nat) (x : α) (l : List α) : sumF f (x :: l) = f x + sumF f l := by simp [sumF]
theorem sumF_app (f : α → Nat) (l l' : List α) : sumF f (l ++ l') = sumF f l + sumF f l' := by simp [sumF]
theorem sumF_perm (f : α → Nat) {l l' : List α} (h : l.Perm l') : sumF f l = sumF f l' := by
  induction h with
  | nil => rfl
  | cons x _ ih => rw [sumF_cons, sumF_cons, ih]
  | swap x y l => rw [sumF_cons, sumF_cons, sumF_cons, sumF_cons]; omega
  | trans _ _ h1 h2 => exact h1.trans h2
theorem sumF_set (f : Ent → Nat) : ∀ (E : List Ent) (n : Nat) (d : Ent), n < E.length → sumF f (E.set n d) + f (entOf E n) = sumF f E + f d
  | [], n, d, h => by simp at h
  | x :: E, 0, d, h => by
    show sumF f (d :: E) + f x = _
    rw [sumF_cons, sumF_cons]; omega
  | x :: E, n + 1, d, h => by
    have ih := sumF_set f E n d (by simpa using h)
    show sumF f (x :: E.set n d) + f (entOf E n) = _
    rw [sumF_cons, sumF_cons]; omega
theorem sumF_le {f : α → Nat} {k : Nat} {l : List α} (h : ∀ x ∈ l, f x ≤ k) : sumF f l ≤ k * l.length := by
  induction l with
  | nil => simp [sumF_nil]
  | cons x r ih =>
    have h1 := h x (List.mem_cons_self ..)
    have h2 := ih fun y hy => h y (List.mem_cons_of_mem _ hy)
    rw [sumF_cons, List.length_cons, Nat.mul_succ]
    omega
theorem sumF_eq {f : α → Nat} {k : Nat} {l : List α} (h : ∀ x ∈ l, f x = k) : sumF f l = k * l.length := by
  induction l with
  | nil => simp [sumF_nil]
  | cons x r ih =>
    have h1 := h x (List.mem_cons_self ..)
    have h2 := ih fun y hy => h y (List.mem_cons_of_mem _ hy)
    rw [sumF_cons, List.length_cons, Nat.mul_succ]
    omega
end
theorem roles_app (n : Int) (l l' : List Msg) : rolesOf n (l ++ l') = rolesOf n l ++ rolesOf n l' := by simp [rolesOf]
theorem roles_cons (n : Int) (m : Msg) (l : List Msg) : rolesOf n (m :: l) = rl n m ++ rolesOf n l := by simp [rolesOf]
theorem roles_perm (n : Int) {l l' : List Msg} (h : l.Perm l') : (rolesOf n l).Perm (rolesOf n l') := by
  induction h with
  | nil => exact List.Perm.refl _
  | cons x _ ih => rw [roles_cons, roles_cons]; exact List.Perm.append_left _ ih
  | swap x y l => rw [roles_cons, roles_cons, roles_cons, roles_cons, ← List.append_assoc, ← List.append_assoc]; exact List.Perm.append_right _ List.perm_append_comm
  | trans _ _ h1 h2 => exact h1.trans h2
theorem way_perm {way : List Msg} {i : Nat} (h : i < way.length) : way.Perm (way.getD i msg0 :: (way.take i ++ way.drop (i + 1))) := by
  have h1 : way.getD i msg0 = way[i] := by simp [List.getD, h]
  have h2 : way = way.take i ++ way[i] :: way.drop (i + 1) := by rw [← List.drop_eq_getElem_cons h, List.take_append_drop]
  rw [h1]
  conv => lhs; rw [h2]
  exact List.perm_middle
theorem Exp.perm {d : Ent} {R R' : List (Nat × Int)} (h : Exp d R) (hp : R.Perm R') : Exp d R' := by
  rcases h with ⟨a, rfl⟩ | ⟨a, b, rfl⟩ | ⟨a, b, c, e, rfl⟩ | ⟨a, b, c, e, C, f, g⟩
  · exact .inl ⟨a, hp.nil_eq.symm⟩
  · exact .inr (.inl ⟨a, b, List.perm_singleton.1 hp.symm⟩)
  · exact .inr (.inr (.inl ⟨a, b, c, e, List.perm_singleton.1 hp.symm⟩))
  · exact .inr (.inr (.inr ⟨a, b, c, e, C, hp.symm.trans f, g⟩))
theorem Exp.idle {d : Ent} {R : List (Nat × Int)} (h : Exp d R) (hb : d.busy = false) : R = [] := by
  rcases h with ⟨a, rfl⟩ | ⟨a, _⟩ | ⟨a, _⟩ | ⟨a, _⟩
  · rfl
  all_goals rw [hb] at a; cases a
theorem Exp.nil {d : Ent} (h : Exp d []) : d.busy = false := by
  rcases h with ⟨a, _⟩ | ⟨_, _, h⟩ | ⟨_, _, _, _, h⟩ | ⟨_, _, _, e, C, f, _, g, _⟩
  · exact a
  · cases h
  · cases h
  · have : C.map (Prod.mk 1) = [] := f.nil_eq.symm
    rw [List.map_eq_nil_iff] at this
    subst this
    simp at g
    omega
theorem sh_get_rng {s : Sh} {c : Int} (h : s.get c = true) : 0 ≤ c ∧ c < 4 := by
  unfold Sh.get at h
  by_cases h0 : c = 0
  · omega
  by_cases h1 : c = 1
  · omega
  by_cases h2 : c = 2
  · omega
  by_cases h3 : c = 3
  · omega
  simp [h0, h1, h2, h3] at h
theorem sh_set_ne {s : Sh} {i c : Int} {x : Bool} (h : c ≠ i) : (s.set i x).get c = s.get c := by
  unfold Sh.set
  by_cases h0 : i = 0
  · subst h0; rw [if_pos rfl]; unfold Sh.get; rw [if_neg h, if_neg h]
  by_cases h1 : i = 1
  · subst h1; rw [if_neg (by decide), if_pos rfl]; unfold Sh.get; simp only [if_neg h]
  by_cases h2 : i = 2
  · subst h2; rw [if_neg (by decide), if_neg (by decide), if_pos rfl]; unfold Sh.get; simp only [if_neg h]
  by_cases h3 : i = 3
  · subst h3; rw [if_neg (by decide), if_neg (by decide), if_neg (by decide), if_pos rfl]; unfold Sh.get; simp only [if_neg h]
  simp only [if_neg h0, if_neg h1, if_neg h2, if_neg h3]
theorem othK_mem (sh : Sh) (r : Int) : ∀ (k : Nat) (c : Int), c ∈ othK sh r k → sh.get c = true ∧ c ≠ r ∧ c < k
  | 0, c, h => by simp [othK] at h
  | k + 1, c, h => by
    unfold othK at h
    split at h
    · rename_i hc
      rw [List.mem_append] at h
      rcases h with h | h
      · obtain ⟨a, b, e⟩ := othK_mem sh r k c h
        exact ⟨a, b, by omega⟩
      · simp at h
        subst h
        simp only [Bool.and_eq_true, decide_eq_true_eq] at hc
        exact ⟨hc.1, hc.2, by omega⟩
    · obtain ⟨a, b, e⟩ := othK_mem sh r k c h
      exact ⟨a, b, by omega⟩
theorem othK_nodup (sh : Sh) (r : Int) : ∀ k, (othK sh r k).Nodup
  | 0 => List.nodup_nil
  | k + 1 => by
    unfold othK
    split
    · rw [List.nodup_append]
      refine ⟨othK_nodup sh r k, by simp, fun x hx y hy e => ?_⟩
      simp at hy
      have := (othK_mem sh r k x hx).2.2
      omega
    · exact othK_nodup sh r k
theorem nodup_sub : ∀ (l m : List Int), l.Nodup → (∀ x ∈ l, x ∈ m) → l.length ≤ m.length
  | [], _, _, _ => Nat.zero_le _
  | x :: l, m, hn, hs => by
    have hx : x ∈ m := hs x (List.mem_cons_self ..)
    have h1 := nodup_sub l (m.erase x) (List.nodup_cons.1 hn).2 fun y hy => by
      have hne : y ≠ x := fun e => (List.nodup_cons.1 hn).1 (e ▸ hy)
      exact (List.mem_erase_of_ne hne).2 (hs y (List.mem_cons_of_mem _ hy))
    have h2 := List.length_erase_of_mem hx
    have h3 : 0 < m.length := List.length_pos_of_mem hx
    simp only [List.length_cons]
    omega
structure Sent (N : Nat) (n : Int) (d' : Ent) (out : List Msg) (R : List (Nat × Int)) (c p : Nat) : Prop where
  good : ∀ m ∈ out, Good N m ∧ m.line = n
  exp : Exp d' (R ++ rolesOf n out)
  cost : sumF cost out + ecost d' ≤ c
  pend : sumF pend out + epend d' = p
theorem send_roles {n : Int} {m : Msg} {k dst : Int} {b : B16} (h : m.line = n) : rl n (sendM m k dst b) = role (sendM m k dst b) := if_pos h
theorem send_good {N : Nat} {n : Int} {m : Msg} {k dst : Int} {b : B16} (h : m.line = n) (hn : n.toNat < N) (hk : 4 ≤ k ∧ k ≤ 10) (hd : 0 ≤ dst ∧ dst < 4) : Good N (sendM m k dst b) ∧ (sendM m k dst b).line = n :=
  ⟨⟨by show m.line.toNat < N; rw [h]; exact hn, .inr (.inl ⟨hk, hd⟩)⟩, h⟩
theorem one_good {N : Nat} {n : Int} {x : Msg} (h : Good N x ∧ x.line = n) : ∀ m ∈ [x], Good N m ∧ m.line = n := fun m hm => by
  simp at hm; subst hm; exact h
theorem begin_step {N : Nat} {n : Int} {d : Ent} {bs : List UInt8} {m : Msg} (h : EI n d) (hb : d.busy = false) (hm : ROk n m) (hn : n.toNat < N) :
    Sent N n (beginF bs d m).1 (beginF bs d m).2.2 [] (qcost m + sumF qcost d.q) (1 + d.q.length) := by
  have hl := leave_ok (r := m.src) h
  have hln := hm.line
  have hs := hm.src
  by_cases h3 : m.kind = 3
  · rw [begin_put h3]
    have ho : owes (leaveF d m.src) = false := by show (d.busy && !d.told) = false; rw [hb]; rfl
    refine ⟨one_good (send_good hln hn (by decide) hs), .inl ⟨hb, ?_⟩, ?_, ?_⟩
    · rw [roles_cons, send_roles hln]; rfl
    · show sumF cost [_] + ((if owes (leaveF d m.src) then 2 else 0) + sumF qcost d.q) ≤ _
      rw [ho, sumF_cons, sumF_nil, show cost (sendM m 7 m.src) = 1 from rfl, qcost, if_pos h3]
      simp
    · show sumF pend [_] + ((if owes (leaveF d m.src) then 1 else 0) + d.q.length) = _
      rw [ho, sumF_cons, sumF_nil, show pend (sendM m 7 m.src) = 1 from rfl]
      simp
  have hq8 : qcost m = 8 := by unfold qcost; rw [if_neg h3]
  have hk12 : m.kind = 1 ∨ m.kind = 2 := by have := hm.kind; omega
  -- data at once
  have told : ∀ (d' : Ent) (k : Int) (b : B16), d'.busy = true → d'.told = true → d'.asks = m.src → d'.q = d.q → (k = 8 ∨ k = 9 ∨ k = 10) → Sent N n d' [sendM m k m.src b] [] (qcost m + sumF qcost d.q) (1 + d.q.length) := by
    intro d' k b h1 h2 h3' h4 h5
    have ho : owes d' = false := by unfold owes; rw [h2]; simp
    have hc : cost (sendM m k m.src b) = 2 := by
      show cost (mkM k 4 m.src m.line b m.hn) = 2
      unfold cost mkM
      rcases h5 with rfl | rfl | rfl <;> simp
    have hp : pend (sendM m k m.src b) = 1 := by
      show pend (mkM k 4 m.src m.line b m.hn) = 1
      unfold pend mkM
      rcases h5 with rfl | rfl | rfl <;> simp
    refine ⟨one_good (send_good hln hn (by omega) hs), .inr (.inl ⟨h1, h2, ?_⟩), ?_, ?_⟩
    · rw [roles_cons, send_roles hln, h3']
      show _ ++ (role (mkM k 4 m.src m.line b m.hn) ++ []) = _
      unfold role mkM
      rcases h5 with rfl | rfl | rfl <;> simp
    · unfold ecost; rw [ho, h4, sumF_cons, sumF_nil, hc, hq8]; simp
    · unfold epend; rw [ho, h4, sumF_cons, sumF_nil, hp]; simp
  by_cases h0 : 0 ≤ (leaveF d m.src).o
  · have hown : 0 ≤ (leaveF d m.src).o ∧ (leaveF d m.src).o < 4 := ⟨h0, hl.ok.own.2⟩
    have hob : owes (busyF (leaveF d m.src) m 1 false) = true := rfl
    have he : Exp (busyF (leaveF d m.src) m 1 false) [(0, (leaveF d m.src).o)] := .inr (.inr (.inl ⟨rfl, rfl, h0, rfl, rfl⟩))
    have hc : ∀ k, k = 4 ∨ k = 5 → Sent N n (busyF (leaveF d m.src) m 1 false) [sendM m k (leaveF d m.src).o] [] (qcost m + sumF qcost d.q) (1 + d.q.length) := by
      intro k hk
      have hc : cost (sendM m k (leaveF d m.src).o) = 2 := by
        show cost (mkM k 4 _ m.line b16z m.hn) = 2
        unfold cost mkM
        rcases hk with rfl | rfl <;> simp
      have hp : pend (sendM m k (leaveF d m.src).o) = 0 := by
        show pend (mkM k 4 _ m.line b16z m.hn) = 0
        unfold pend mkM
        rcases hk with rfl | rfl <;> simp
      refine ⟨one_good (send_good hln hn (by omega) hown), ?_, ?_, ?_⟩
      · rw [roles_cons, send_roles hln]
        show Exp _ ([] ++ (role (mkM k 4 (leaveF d m.src).o m.line b16z m.hn) ++ []))
        have : role (mkM k 4 (leaveF d m.src).o m.line b16z m.hn) = [(0, (leaveF d m.src).o)] := by
          unfold role mkM
          rcases hk with rfl | rfl <;> simp
        rw [this]
        exact he
      · show sumF cost [_] + ((if owes (busyF (leaveF d m.src) m 1 false) then 2 else 0) + sumF qcost d.q) ≤ _
        rw [hob, sumF_cons, sumF_nil, hc, hq8]; simp; omega
      · show sumF pend [_] + ((if owes (busyF (leaveF d m.src) m 1 false) then 1 else 0) + d.q.length) = _
        rw [hob, sumF_cons, sumF_nil, hp]; simp
    rcases hk12 with hk | hk
    · rw [begin_s1 hk h0]; exact hc 4 (.inl rfl)
    · rw [begin_m1 hk h0]; exact hc 5 (.inr rfl)
  rcases hk12 with hk | hk
  · by_cases h1 : 0 < (othersF (leaveF d m.src).sh m.src).length
    · rw [begin_s2 hk h0 h1]; exact told _ 8 _ rfl rfl rfl rfl (by decide)
    · rw [begin_s3 hk h0 h1]; exact told _ 9 _ rfl rfl rfl rfl (by decide)
  · by_cases h1 : (othersF (leaveF d m.src).sh m.src).length = 0
    · rw [begin_m3 hk h0 h1]; exact told _ 10 _ rfl rfl rfl rfl (by decide)
    · rw [begin_m2 hk h0 h1]
      generalize hC : othersF (leaveF d m.src).sh m.src = C at h1
      have hmem : ∀ c ∈ C, (leaveF d m.src).sh.get c = true ∧ c ≠ m.src := fun c hc => by
        rw [← hC] at hc
        obtain ⟨a, b, _⟩ := othK_mem _ _ _ _ hc
        exact ⟨a, b⟩
      have hnd : C.Nodup := by rw [← hC]; exact othK_nodup _ _ _
      have hlen : C.length ≤ 4 := by rw [← hC]; exact othK_len _ _ 4
      have hl3 : C.length ≤ 3 := by
        by_cases h4 : C.length ≤ 3
        · exact h4
        exfalso
        have hin : ∀ c ∈ C, c ∈ ([0, 1, 2, 3] : List Int).erase m.src := fun c hc => by
          have := sh_get_rng (hmem c hc).1
          have hne := (hmem c hc).2
          rw [List.Nodup.mem_erase_iff (by decide)]
          refine ⟨hne, ?_⟩
          simp only [List.mem_cons, List.mem_nil_iff, or_false]
          omega
        have h5 : (([0, 1, 2, 3] : List Int).erase m.src).length = 3 := by
          rw [List.length_erase_of_mem (by simp only [List.mem_cons, List.mem_nil_iff, or_false]; omega)]
          rfl
        have := nodup_sub C _ hnd hin
        omega
      have hob : owes (busyF (leaveF d m.src) m ((C.length : Nat) : Int) false) = true := rfl
      have hr : rolesOf n (C.map (sendM m 6)) = C.map (Prod.mk 1) := by
        clear hob hl3 hlen hnd hmem h1 hC
        induction C with
        | nil => rfl
        | cons c r ih =>
          rw [List.map_cons, roles_cons, send_roles hln, List.map_cons, ih]
          rfl
      refine ⟨fun x hx => ?_, ?_, ?_, ?_⟩
      · obtain ⟨c, hc, rfl⟩ := List.mem_map.1 hx
        exact send_good hln hn (by decide) (sh_get_rng (hmem c hc).1)
      · rw [hr]
        exact .inr (.inr (.inr ⟨rfl, rfl, by show (leaveF d m.src).o < 0; omega, by show (1 : Int) ≤ ((C.length : Nat) : Int); omega, C, List.Perm.refl _, hnd, rfl, hmem⟩))
      · show sumF cost (C.map (sendM m 6)) + ((if owes (busyF (leaveF d m.src) m ((C.length : Nat) : Int) false) then 2 else 0) + sumF qcost d.q) ≤ _
        have := sumF_le (f := cost) (k := 2) (l := C.map (sendM m 6)) fun x hx => by
          obtain ⟨c, _, rfl⟩ := List.mem_map.1 hx
          exact Nat.le_refl _
        rw [List.length_map] at this
        rw [hob, hq8, if_pos rfl]; omega
      · show sumF pend (C.map (sendM m 6)) + ((if owes (busyF (leaveF d m.src) m ((C.length : Nat) : Int) false) then 1 else 0) + d.q.length) = _
        have := sumF_eq (f := pend) (k := 0) (l := C.map (sendM m 6)) fun x hx => by
          obtain ⟨c, _, rfl⟩ := List.mem_map.1 hx
          rfl
        rw [hob, if_pos rfl]; omega
theorem drain_out {N : Nat} {n : Int} (hn : n.toNat < N) : ∀ (q : List Msg) (bs : List UInt8) (d : Ent) (R : List (Nat × Int)), EI n d → (∀ m ∈ q, ROk n m) → Exp d R →
    Sent N n (drainF q bs d).1 (drainF q bs d).2.2 R ((if owes d then 2 else 0) + sumF qcost q) ((if owes d then 1 else 0) + q.length)
  | [], bs, d, R, h, hq, he => ⟨fun m hm => (by cases hm), by show Exp _ (R ++ []); rw [List.append_nil]; exact he, by show sumF cost [] + ecost _ ≤ _; rw [sumF_nil]; simp [ecost]; exact Nat.le_refl _, by show sumF pend [] + epend _ = _; rw [sumF_nil]; simp [epend]; rfl⟩
  | m :: r, bs, d, R, h, hq, he => by
    have hr : ∀ x ∈ r, ROk n x := fun x hx => hq x (List.mem_cons_of_mem _ hx)
    rw [drain_cons]
    cases hb : d.busy with
    | true =>
      rw [if_pos rfl]
      exact ⟨fun m hm => (by cases hm), by show Exp _ (R ++ []); rw [List.append_nil]; have : Exp d R := he; unfold Exp at this; rw [hb] at this; exact this, by show sumF cost [] + ecost _ ≤ _; rw [sumF_nil]; simp [ecost, owes, hb], by show sumF pend [] + epend _ = _; rw [sumF_nil]; simp [epend, owes, hb]⟩
    | false =>
      rw [if_neg (by decide)]
      obtain rfl := he.idle hb
      have ho : owes d = false := by unfold owes; rw [hb]; rfl
      rw [ho]
      have hm := hq m (List.mem_cons_self ..)
      have hd' := h.queue r hr
      have e1 := begin_ei (bs := bs) (m := m) hd' (show ({ d with q := r } : Ent).busy = false from hb) hm
      have s1 := begin_step (N := N) (bs := bs) (m := m) hd' (show ({ d with q := r } : Ent).busy = false from hb) hm hn
      rw [hb] at e1 s1
      have hqq : (beginF bs { o := d.o, sh := d.sh, busy := false, asks := d.asks, kind := d.kind, waits := d.waits, told := d.told, q := r } m).1.q = r := begin_q
      generalize hx : beginF bs { o := d.o, sh := d.sh, busy := false, asks := d.asks, kind := d.kind, waits := d.waits, told := d.told, q := r } m = x at *
      have s2 := drain_out hn r x.2.1 x.1 (rolesOf n x.2.2) e1 hr (by have := s1.exp; rwa [List.nil_append] at this)
      have c1 := s1.cost
      have p1 := s1.pend
      have c2 := s2.cost
      have p2 := s2.pend
      unfold ecost at c1
      unfold epend at p1
      rw [hqq] at c1 p1
      refine ⟨fun y hy => ?_, ?_, ?_, ?_⟩
      · rcases List.mem_append.1 hy with hy | hy
        · exact s1.good y hy
        · exact s2.good y hy
      · rw [roles_app, List.nil_append]; exact s2.exp
      · show sumF cost (x.2.2 ++ (drainF r x.2.1 x.1).2.2) + ecost (drainF r x.2.1 x.1).1 ≤ (if false = true then 2 else 0) + sumF qcost (m :: r)
        rw [sumF_app, sumF_cons, if_neg (by decide)]; dsimp only at c1; omega
      · show sumF pend (x.2.2 ++ (drainF r x.2.1 x.1).2.2) + epend (drainF r x.2.1 x.1).1 = (if false = true then 1 else 0) + (m :: r).length
        rw [sumF_app, List.length_cons, if_neg (by decide)]; dsimp only at p1; omega
theorem other_step {N : Nat} {n : Int} {d : Ent} {bs : List UInt8} {m : Msg} {R : List (Nat × Int)} (h : EI n d) (hk : 11 ≤ m.kind ∧ m.kind ≤ 13) (hln : m.line = n) (hn : n.toNat < N) (he : Exp d (role m ++ R)) :
    strayF d m = false ∧ Sent N n (otherF bs d m).1 (otherF bs d m).2.2 R (ecost d) (epend d) := by
  have hask := h.ok.asks
  -- told behind it
  have told : ∀ (d' : Ent) (k : Int) (b : B16), R = [] → owes d = true → d'.busy = true → d'.told = true → d'.asks = d.asks → d'.q = d.q → (k = 8 ∨ k = 10) → Sent N n d' [sendM m k d.asks b] R (ecost d) (epend d) := by
    intro d' k b hR h0 h1 h2 h3' h4 h5
    subst hR
    have ho : owes d' = false := by unfold owes; rw [h2]; simp
    have hc : cost (sendM m k d.asks b) = 2 := by
      show cost (mkM k 4 d.asks m.line b m.hn) = 2
      unfold cost mkM
      rcases h5 with rfl | rfl <;> simp
    have hp : pend (sendM m k d.asks b) = 1 := by
      show pend (mkM k 4 d.asks m.line b m.hn) = 1
      unfold pend mkM
      rcases h5 with rfl | rfl <;> simp
    refine ⟨one_good (send_good hln hn (by omega) hask), .inr (.inl ⟨h1, h2, ?_⟩), ?_, ?_⟩
    · rw [roles_cons, send_roles hln, h3']
      show _ ++ (role (mkM k 4 d.asks m.line b m.hn) ++ []) = _
      unfold role mkM
      rcases h5 with rfl | rfl <;> simp
    · unfold ecost; rw [ho, h4, sumF_cons, sumF_nil, hc, h0]; simp
    · unfold epend; rw [ho, h4, sumF_cons, sumF_nil, hp, h0]; simp
  have hk' : m.kind = 11 ∨ m.kind = 12 ∨ m.kind = 13 := by omega
  rcases hk' with hk | hk | hk
  · have hro : role m = [(0, m.src)] := by unfold role; simp [hk]
    rw [hro] at he
    rcases he with ⟨_, e⟩ | ⟨_, _, e⟩ | ⟨a, b, c, w1, e⟩ | ⟨_, _, _, _, C, f, _⟩
    · cases e
    · simp at e
    · simp at e
      obtain ⟨e1, e2⟩ := e
      have ho : owes d = true := by unfold owes; rw [a, b]; rfl
      refine ⟨by unfold strayF; simp [hk, a, w1, e1], ?_⟩
      by_cases h1 : d.kind = 1
      · rw [other_b1 hk h1]; exact told _ 8 _ e2 ho a rfl rfl rfl (by decide)
      · rw [other_b2 hk h1]; exact told _ 10 _ e2 ho a rfl rfl rfl (by decide)
    · have := f.subset (List.mem_cons_self ..)
      simp at this
  · have hro : role m = [(1, m.src)] := by unfold role; simp [hk]
    rw [hro] at he
    rcases he with ⟨_, e⟩ | ⟨_, _, e⟩ | ⟨a, b, c, w1, e⟩ | ⟨a, b, c, w1, C, f, nd, cl, ce⟩
    · cases e
    · simp at e
    · simp at e
    · have hin : m.src ∈ C := by
        have := f.subset (List.mem_cons_self ..)
        simpa using this
      have ho : owes d = true := by unfold owes; rw [a, b]; rfl
      obtain ⟨g1, g2⟩ := ce _ hin
      refine ⟨by unfold strayF; simp [hk, a, g1, g2]; omega, ?_⟩
      have hR : R.Perm ((C.erase m.src).map (Prod.mk 1)) := by
        have h1 : C.Perm (m.src :: C.erase m.src) := List.perm_cons_erase hin
        have h2 := h1.map (Prod.mk 1)
        exact (f.trans h2).cons_inv
      have hl : (C.erase m.src).length = C.length - 1 := List.length_erase_of_mem hin
      by_cases h1 : d.waits = 1
      · rw [other_a1 hk h1]
        have : C.erase m.src = [] := List.eq_nil_of_length_eq_zero (by omega)
        rw [this] at hR
        exact told _ 10 _ (List.Perm.eq_nil hR) ho a rfl rfl rfl (by decide)
      · rw [other_a2 hk h1]
        refine ⟨fun x hx => (by cases hx), ?_, ?_, ?_⟩
        · show Exp _ (R ++ [])
          rw [List.append_nil]
          refine .inr (.inr (.inr ⟨a, b, c, by show 1 ≤ d.waits - 1; omega, C.erase m.src, hR, nd.erase _, by show _ = d.waits - 1; rw [hl]; have : 0 < C.length := List.length_pos_of_mem hin; omega, fun x hx => ?_⟩))
          have hx' := (nd.mem_erase_iff).1 hx
          obtain ⟨g1, g2⟩ := ce x hx'.2
          exact ⟨by show (d.sh.set m.src false).get x = true; rw [sh_set_ne hx'.1]; exact g1, g2⟩
        · show sumF cost [] + _ ≤ _
          rw [sumF_nil, Nat.zero_add]
          exact Nat.le_refl _
        · show sumF pend [] + _ = _
          rw [sumF_nil, Nat.zero_add]
          rfl
  · have hro : role m = [(2, m.src)] := by unfold role; simp [hk]
    rw [hro] at he
    rcases he with ⟨_, e⟩ | ⟨a, b, e⟩ | ⟨_, _, _, _, e⟩ | ⟨_, _, _, _, C, f, _⟩
    · cases e
    · simp at e
      obtain ⟨e1, rfl⟩ := e
      refine ⟨by unfold strayF; simp [hk, a, b, e1], ?_⟩
      rw [other_d hk]
      have h' : EI n { d with busy := false, asks := 0, kind := 0, waits := 0, told := false } := ⟨⟨by show (0 : Int) ≤ 0 ∧ (0 : Int) < 4; decide, fun _ => rfl, h.ok.own, h.ok.q, pW0, fun h => (by cases h)⟩, h.apart, fun _ => ⟨rfl, rfl⟩⟩
      have s := drain_out (N := N) hn d.q bs _ [] h' h.ok.rest (.inl ⟨rfl, rfl⟩)
      have ho : owes d = false := by unfold owes; rw [b]; simp
      have c1 : ecost d = (if owes { d with busy := false, asks := 0, kind := 0, waits := 0, told := false } then 2 else 0) + sumF qcost d.q := by unfold ecost; rw [ho]; rfl
      have p1 : epend d = (if owes { d with busy := false, asks := 0, kind := 0, waits := 0, told := false } then 1 else 0) + d.q.length := by unfold epend; rw [ho]; rfl
      rw [c1, p1]
      exact s
    · simp at e
    · have := f.subset (List.mem_cons_self ..)
      simp at this
end Go.Proofs.Ytdiaemlgghfecaa
