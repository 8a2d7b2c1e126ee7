/-
  Part 3 of what the claim stands on: walks through the code, plain laws.
-/
import Derived.Test.YtpfijldkkfiooaaGreatDoorZTA2
set_option linter.unusedVariables false
set_option linter.unusedSimpArgs false
namespace Go.Proofs.YtpfijldkkfiooaaGreatDoor
open Go
set_option maxRecDepth 4000
theorem part_r (w hi lo : Int) : IntKind.i64.wrap (partF w hi lo) = ((partF w hi lo).toNat : Int) := by
  have h := part_u w hi lo
  unfold U32 at h
  rw [i64w rfl (by omega)]
  omega
theorem c236 : Sp Tryz.prog 236 [] [] fun K => K (.returned (.func (.func 260) #[] #[])) [] := by
  refine Zen Tryz.func236 rfl rfl rfl fun e X Φ hS => Zsr <| Zv (ya rfl) <| Znl <| Znx <| Zsr <| Zv (ya rfl) <| Znl <| Znx <| Zrt ?_
  refine Zre (.t rfl .n) hS [] 0 rfl rfl rfl rfl
theorem c205' (hq : SqR Tryz.prog 260 [] [spC] (fun _ => [spC]) RowR rowT) (w : Int) : Sp Tryz.prog 205 [.int .u32 w] [spC] fun K => K (.returned (.tuple #[.agg (insE.arr (decF w).1), .bool (decF w).2])) [spC] := by
  refine ZenM Tryz.func205 rfl rfl rfl fun e X Φ hS => Zsr <| Ze (ebx rfl) fun b1 => Zw <| Ze (eal z167) fun b2 => Zw <| Zv (ya rfl) <| Znl <| Znx <| Zscp <| Zsr <| Zv (yb l357 rfl) ?_
  refine Ze (eal z357) fun b4 => Zw <| Ze (esw 0 (m := 12) rfl rfl rfl rfl rfl rfl rfl) <| Zw0 <| Znl <| Znx <| Zsq <| Zlb <| Znx <| Zsq <| Zsr <| Zk (c236 ..) [] rfl rfl ?_
  refine Zq <| Znl <| Znx <| Zbl ?_
  refine Zrh hq (fun _ => [.blk b4 357 [.int .i64 0, .string ⟨#[]⟩, .int .u32 0, .bool false, .bool false, .bool false, .bool false, .nilFunc, .nilFunc, .nilFunc, .nilFunc, .int .u32 0], .blk b1 40 [.int .u32 w]]) (fun pre => ∀ x ∈ pre, andF w x.2.1.mask ≠ x.2.2) (fun _ => []) (fun _ => False) (fun _ _ => [.hp (rowDC b4 w), .blk b1 40 [.int .u32 w]]) (fun id _ => id = 0) [3, 0, 1] rfl rfl ?_ (fun e' y pre x vs F hx hR hn => ?_) (fun D hn => ?_) (fun _ _ _ h => h.elim) (fun D id pre hx hp => ?_) (fun x vs hR => by obtain ⟨_, _, _, _, rfl, _⟩ := hR; rfl) (by decide)
  · exact fun x hx => by cases hx
  · obtain ⟨nm, m, p, t, rfl, hm, hp, ht⟩ := hR
    obtain ⟨f1, k1, rfl⟩ := hm
    obtain ⟨f2, k2, rfl⟩ := hp
    obtain ⟨f3, k3, rfl⟩ := ht
    rw [show (Value.int .i64 x.1 :: Value.string nm :: (fmCs x.2.1 (.func (.func f1) #[] k1) (.func (.func f2) #[] k2) (.func (.func f3) #[] k3) ++ [.int .u32 x.2.2])) = [.int .i64 x.1, .string nm, .int .u32 x.2.1.mask, .bool x.2.1.rd, .bool x.2.1.rs1, .bool x.2.1.rs2, .bool x.2.1.a, .func (.func f1) #[] k1, .func (.func f2) #[] k2, .func (.func x.2.1.tk) #[] #[], .func (.func f3) #[] k3, .int .u32 x.2.2] from rfl]
    have he : IntKind.u32.wrap ((BitVec.ofInt IntKind.u32.bits w &&& BitVec.ofInt IntKind.u32.bits x.2.1.mask).toNat : Int) = andF w x.2.1.mask := rfl
    refine Zrg <| Ze (eal z357) fun b5 => Zw <| Ze (esw 0 (m := 12) rfl rfl rfl rfl rfl rfl rfl) <| Zw0 <| Znl <| Zak 3 rfl fun F' => Zbl <| Zsr <| Zv (yd 2 rfl rfl rfl) <| Zv (yf 2 rfl) <| Zv (yf 0 rfl) ?_
    refine Zv (yd 0 rfl rfl rfl) <| Zv (yand rfl rfl rfl) <| Zv (yf 11 rfl) <| Zv (yd 0 rfl rfl rfl) <| Zv (yeq rfl rfl) <| Znl <| Znx <| Zif rfl (fun h19 => ?_) (fun h19 => ?_)
    refine Zsr <| Zv (ydw 0 (m := 12) rfl rfl rfl) <| Ze (esw 1 (m := 12) rfl rfl rfl rfl rfl rfl rfl) <| Zw0 <| Znl <| Znx <| Zex <| Zxb rfl ?_
    rotate_left
    refine Zsk <| Zxn ?_
    rotate_left
    · have hr : rowF w = some x := row_found hx hn (by rw [← he]; exact h19)
      refine Zfx [1] (rwc_fold (b := b4) (w := w) (nm := nm) hr ⟨f1, k1, rfl⟩ ⟨f2, k2, rfl⟩ ⟨f3, k3, rfl⟩) rfl ?_
      refine Zrx rfl [0,1] 1 rfl rfl
    · refine Zrn (fun y hy => by rcases List.mem_append.1 hy with hy | hy; exact hn y hy; rw [List.mem_singleton.1 hy, ← he]; exact h19) [1,1] 1 rfl rfl
  · have h0 : decF w = (ins0, false) := by
      unfold decF
      rw [show rowF w = none from List.find?_eq_none.2 fun x hx => by simpa using hn x hx]
    rw [h0] at hS
    refine Zxn <| Znx <| Zsq <| Zsr <| Zv (yf 0 rfl) <| Zv (yd 1 rfl rfl rfl) <| Zv (yeq rfl rfl) <| Znl <| Znx <| Zct rfl ?_
    refine Zsr <| Zv (yb l167 rfl) <| Ze (esw 4 (m := 7) rfl rfl rfl rfl rfl rfl rfl) <| Zw0 <| Zv (ya rfl) <| Znl <| Znx <| Zrt <| Zr1 <| Zgr <| Zmk 0 rfl ?_
    refine Zre (.wh 3 (m := 7) rfl rfl rfl (.t rfl .n)) hS [2] 3 rfl rfl rfl rfl
  · subst hp
    refine Zoc 1 rwc_op rfl <| fun x nm m p t hr hm hp ht => Zex <| Zxx <| Znx <| Zsq <| Zsr <| Zv (yf 0 rfl) <| Zv (yd 0 rfl rfl rfl) <| Zv (yeq rfl rfl) <| Znl ?_
    refine Znx <| Zif rfl (fun h23 => ?_) (fun h23 => ?_)
    refine Zsr <| Zv (yb l167 rfl) <| Ze (esw 4 (m := 7) rfl rfl rfl rfl rfl rfl rfl) <| Zw0 <| Zv (ya rfl) <| Znl <| Znx <| Zrt <| Zr1 <| Zgr <| Zmk 1 rfl ?_
    refine Zre (.wh 3 (m := 7) rfl rfl rfl (.t rfl .n)) hS [2] 3 ?_ rfl rfl rfl
    rotate_left
    refine Zsk <| Znx <| Zsq ?_
    rotate_left
    · exact absurd (row_op (row_mem hr)).1 (by omega)
    · obtain ⟨f1, k1, rfl⟩ := hm
      obtain ⟨f2, k2, rfl⟩ := hp
      obtain ⟨f3, k3, rfl⟩ := ht
      have hx0 := row_mem hr
      have hf := take_ok hx0
      have hsp := take_sp hx0 w
      have h0 : decF w = (insF w x, true) := by
        unfold decF
        rw [hr]
      rw [h0] at hS
      refine Zjw (ι := Nat) (fun b6 => [(6, .pointer (some ⟨b6, 0, none⟩)), (4, .pointer (some ⟨b4, 0, none⟩)), (2, .pointer (some ⟨b2, 0, none⟩)), (1, .pointer (some ⟨b1, 0, none⟩)), (3, .bool false)]) (fun b6 => [.blk b6 167 [.int .i64 x.1, .int .i64 0, .int .i64 0, .int .i64 0, .int .u32 (x.2.1.take w), .bool false, .bool false], .blk b4 357 (rowCs x nm (.func (.func f1) #[] k1) (.func (.func f2) #[] k2) (.func (.func f3) #[] k3)), .obj D (.deferred (some [])), .blk b1 40 [.int .u32 w], spC, .blk b2 167 [.int .i64 0, .int .i64 0, .int .i64 0, .int .i64 0, .int .u32 0, .bool false, .bool false]]) X ?_ fun b6 => ?_
      rotate_left
      refine Zsq <| Zsr <| Zv (yf 2 rfl) <| Zv (yf 1 rfl) <| Zv (yd 1 rfl rfl rfl) <| Zv (yf 1 rfl) <| Zv (yb l362 rfl) <| Zv (yf 2 rfl) <| Zv (yf 2 rfl) <| Zv (yd 1 rfl rfl rfl) ?_
      refine Zv (yf 2 rfl) <| Zv (yb l362 rfl) <| Zv (yf 2 rfl) <| Zv (yf 3 rfl) <| Zv (yd 1 rfl rfl rfl) <| Zv (yf 3 rfl) <| Zv (yb l362 rfl) ?_
      rotate_left
      · refine Zhd [] rfl rfl <| Zht 0 rfl (yf 0 rfl) <| Zht 1 rfl (yd 0 rfl rfl rfl) <| Zht 2 rfl (yf 2 rfl) <| Zht 3 rfl (yf 7 rfl) <| Zht 4 rfl (yd 0 rfl rfl rfl) <| Zht 5 rfl (yd 2 rfl rfl rfl) ?_
        refine Zh2 6 8 (by kernel_rfl) (Zokv (b1 := []) (b2 := []) (args := [.int .u32 w]) hsp [] rfl rfl rfl rfl rfl <| Zqh 0 rfl ?_) (Zoe rfl (eal z167) fun b6 => Zwh 1 rfl ?_)
        refine Zht 7 rfl (yb l167 rfl) <| Zh1 8 (by kernel_rfl) <| Zoe rfl (eal z167) fun b6 => Zwh 1 rfl <| Zh1 9 (by kernel_rfl) <| Zoe rfl (esw 0 (m := 7) rfl rfl rfl rfl rfl rfl rfl) <| Zwh0 1 rfl <| Zhn (by kernel_rfl) ?_
        rotate_left
        rotate_left
        · refine Zjr b6 ⟨rfl, rfl, rfl, rfl, rfl, trivial⟩ [0,0,0,0,0,0] 0 rfl rfl
        · refine Zh1 6 (by kernel_rfl) <| Zokv (b1 := []) (b2 := []) (args := [.int .u32 w]) hsp [] rfl rfl rfl rfl rfl <| Zqh 1 rfl <| Zht 7 rfl (yb l167 rfl) <| Zh1 9 (by kernel_rfl) <| Zoe rfl (esw 0 (m := 7) rfl rfl rfl rfl rfl rfl rfl) <| Zwh0 1 rfl <| Zhn (by kernel_rfl) ?_
          refine Zjr b6 ⟨rfl, rfl, rfl, rfl, rfl, trivial⟩ [0,0,0,0,0,0] 0 rfl rfl
      · refine Ze (eb3 rfl rfl rfl) fun bs => Zw <| Zv (sl_of ⟨_, Tryz.underlying363⟩ rfl) <| Zv (ym rfl) <| Znl <| Znx <| Zbl ?_
        obtain ⟨op, ⟨mask, rd, rs1, rs2, fa, tk, take⟩, bits⟩ := x
        refine Zlq (ι := { i : Nat // i ≤ 3 }) (fun i => [(50, .int .i64 (i.1 : Int)), (49, .int .i64 ((3 : Nat) : Int)), (48, .slice (some ⟨bs, 0, none⟩) 3 3), (6, .pointer (some ⟨b6, 0, none⟩)), (4, .pointer (some ⟨b4, 0, none⟩)), (2, .pointer (some ⟨b2, 0, none⟩)), (1, .pointer (some ⟨b1, 0, none⟩)), (3, .bool false)]) (fun i => [.blk bs 362 [.bool rd, .pointer (some ⟨b6, 1, none⟩), .int .i64 7, .bool rs1, .pointer (some ⟨b6, 2, none⟩), .int .i64 15, .bool rs2, .pointer (some ⟨b6, 3, none⟩), .int .i64 20], .blk b6 167 (insP w op rd rs1 rs2 (take w) i.1), .blk b4 357 (rowCs (op, ⟨mask, rd, rs1, rs2, fa, tk, take⟩, bits) nm (.func (.func f1) #[] k1) (.func (.func f2) #[] k2) (.func (.func f3) #[] k3)), .obj D (.deferred (some [])), .blk b1 40 [.int .u32 w], spC, .blk b2 167 [.int .i64 0, .int .i64 0, .int .i64 0, .int .i64 0, .int .u32 0, .bool false, .bool false]]) (fun i => 3 - i.1) ⟨0, by omega⟩ ⟨rfl, rfl, rfl, rfl, rfl, rfl, rfl, rfl, trivial⟩ [0, 0, 0, 0, 0, 0, 0] rfl fun i => Zsr <| Zv (ylt rfl rfl) <| Znl <| Znx <| Zsq <| Zif rfl (fun h51 => ?_) (fun h51 => ?_)
        refine Zsk <| Znx <| Zsq <| Zbl <| Zsr ?_
        rotate_left
        refine Zex <| Zxt <| Zxt <| Zxx <| Znx <| Zsq <| Zsr <| Zv (yf 2 rfl) <| Zv (yf 4 rfl) <| Zv (yd 2 rfl rfl rfl) ?_
        refine Znl <| Znx <| Zib rfl (fun h70 => ?_) (fun h70 => ?_)
        refine Zhd [1] rfl rfl <| Zht 0 rfl (yd 3 rfl rfl rfl) <| Zht 3 rfl (yd 3 rfl rfl rfl) <| Zh1 1 (by kernel_rfl) <| Zok (c237 ..) [] rfl rfl rfl <| Zqh 1 rfl <| Zht 2 rfl (yeq rfl rfl) <| Zh1 4 (by kernel_rfl) <| Zok (c237 ..) [] rfl rfl rfl <| Zqh 1 rfl <| Zht 5 rfl (yeq rfl rfl) <| Zht 6 rfl (yf 5 rfl) ?_
        refine Zh1 7 (by kernel_rfl) <| Zoe rfl (es 0 rfl rfl rfl rfl rfl) <| Zwh0 1 rfl <| Zht 8 rfl (yf 6 rfl) <| Zh1 9 (by kernel_rfl) <| Zoe rfl (es 0 rfl rfl rfl rfl rfl) <| Zwh0 1 rfl <| Zhn (by kernel_rfl) <| Znx <| Zsr <| Zv (ydw 0 (m := 7) rfl rfl rfl) <| Ze (esw 6 (m := 7) rfl rfl rfl rfl rfl rfl rfl) <| Zw0 <| Zv (ya rfl) <| Znl ?_
        refine Znx <| Zrt <| Zgr <| Zmk 3 rfl <| Zre (.wh 5 (m := 7) rfl rfl rfl (.t rfl .n)) hS [4] 5 ?_ rfl rfl rfl
        rotate_left
        refine Zsk <| Znx <| Zsr <| Zv (ydw 1 (m := 7) rfl rfl rfl) <| Ze (esw 6 (m := 7) rfl rfl rfl rfl rfl rfl rfl) <| Zw0 <| Zv (ya rfl) <| Znl <| Znx <| Zrt <| Zgr ?_
        refine Zmk 3 rfl <| Zre (.wh 5 (m := 7) rfl rfl rfl (.t rfl .n)) hS [4] 5 ?_ rfl rfl rfl
        rotate_left
        · obtain ⟨i, hi⟩ := i
          have hi3 : i = 0 ∨ i = 1 ∨ i = 2 := by
            have : (i : Int) < 3 := by assumption
            omega
          rcases hi3 with rfl | rfl | rfl
          · cases rd
            · refine Zv (yeb (j := 0) (s := 3) 0 Tryz.underlying363 rfl rfl (by decide) rfl) <| Zv (yda (m := 3) 0 rfl rfl rfl rfl) <| Ze (eal z362) fun b8 => Zw <| Ze (esw 0 (m := 3) rfl rfl rfl rfl rfl rfl rfl) <| Zw0 <| Znl <| Znx <| Zsr <| Zv (yf 0 rfl) <| Zv (yd 0 rfl rfl rfl) <| Znl <| Znx ?_
              refine Zcf rfl <| Zsk <| Zxn <| Znx <| Zrg <| Zv (yadd (s := 1) rfl rfl rfl) <| Zv (ym rfl) <| Znl ?_
              refine Zlr ⟨1, by omega⟩ (by show 3 - 1 < 3 - 0; omega) ⟨rfl, rfl, rfl, rfl, rfl, rfl, rfl, rfl, trivial⟩ [1, 1, 1, 1, 1, 1, 1] 1 rfl rfl
            · refine Zv (yeb (j := 0) (s := 3) 0 Tryz.underlying363 rfl rfl (by decide) rfl) <| Zv (yda (m := 3) (vs := [.bool true, .pointer (some ⟨b6, 1, none⟩), .int .i64 7]) 0 rfl rfl rfl rfl) <| Ze (eal z362) fun b8 => Zw <| Ze (esw 0 (m := 3) rfl rfl rfl rfl rfl rfl rfl) <| Zw0 <| Znl <| Znx <| Zsr <| Zv (yf 0 rfl) <| Zv (yd 0 rfl rfl rfl) <| Znl <| Znx ?_
              refine Zct rfl ?_
              refine Zhd [2] rfl rfl <| Zht 0 rfl (yf 1 rfl) <| Zht 1 rfl (yd 0 rfl rfl rfl) <| Zht 2 rfl (yd 4 rfl rfl rfl) <| Zht 3 rfl (yf 2 rfl) <| Zht 4 rfl (yd 0 rfl rfl rfl) <| Zht 5 rfl (yadd (s := 11) rfl rfl rfl) <| Zht 6 rfl (yf 2 rfl) <| Zht 7 rfl (yd 0 rfl rfl rfl) ?_
              refine Zh1 8 (by kernel_rfl) <| Zok (c237 w 11 7) [] rfl rfl rfl <| Zqh 1 rfl <| Zht 9 rfl (ycv Tryz.underlying40 Tryz.underlying3 rfl rfl) <| Zht 10 rfl (yn rfl) <| Zh1 11 (by kernel_rfl) <| Zoe rfl (es 0 rfl rfl rfl rfl rfl) <| Zwh0 1 rfl <| Zhn (by kernel_rfl) <| Zxn <| Znx <| Zrg <| Zv (yadd (s := 1) rfl rfl rfl) <| Zv (ym rfl) ?_
              refine Znl ?_
              rw [part_r]
              refine Zlr ⟨1, by omega⟩ (by show 3 - 1 < 3 - 0; omega) ⟨rfl, rfl, rfl, rfl, rfl, rfl, rfl, rfl, trivial⟩ [2, 0, 1, 1, 1, 1, 1] 1 rfl rfl
          · cases rs1
            · refine Zv (yeb (j := 1) (s := 3) 3 Tryz.underlying363 rfl rfl (by decide) rfl) <| Zv (yda (m := 3) 0 rfl rfl rfl rfl) <| Ze (eal z362) fun b8 => Zw <| Ze (esw 0 (m := 3) rfl rfl rfl rfl rfl rfl rfl) <| Zw0 <| Znl <| Znx <| Zsr <| Zv (yf 0 rfl) <| Zv (yd 0 rfl rfl rfl) <| Znl <| Znx ?_
              refine Zcf rfl <| Zsk <| Zxn <| Znx <| Zrg <| Zv (yadd (s := 2) rfl rfl rfl) <| Zv (ym rfl) <| Znl ?_
              refine Zlr ⟨2, by omega⟩ (by show 3 - 2 < 3 - 1; omega) ⟨rfl, rfl, rfl, rfl, rfl, rfl, rfl, rfl, trivial⟩ [1, 1, 1, 1, 1, 1, 1] 1 rfl rfl
            · refine Zv (yeb (j := 1) (s := 3) 3 Tryz.underlying363 rfl rfl (by decide) rfl) <| Zv (yda (m := 3) (vs := [.bool true, .pointer (some ⟨b6, 2, none⟩), .int .i64 15]) 0 rfl rfl rfl rfl) <| Ze (eal z362) fun b8 => Zw <| Ze (esw 0 (m := 3) rfl rfl rfl rfl rfl rfl rfl) <| Zw0 <| Znl <| Znx <| Zsr <| Zv (yf 0 rfl) <| Zv (yd 0 rfl rfl rfl) <| Znl <| Znx ?_
              refine Zct rfl ?_
              refine Zhd [2] rfl rfl <| Zht 0 rfl (yf 1 rfl) <| Zht 1 rfl (yd 0 rfl rfl rfl) <| Zht 2 rfl (yd 4 rfl rfl rfl) <| Zht 3 rfl (yf 2 rfl) <| Zht 4 rfl (yd 0 rfl rfl rfl) <| Zht 5 rfl (yadd (s := 19) rfl rfl rfl) <| Zht 6 rfl (yf 2 rfl) <| Zht 7 rfl (yd 0 rfl rfl rfl) ?_
              refine Zh1 8 (by kernel_rfl) <| Zok (c237 w 19 15) [] rfl rfl rfl <| Zqh 1 rfl <| Zht 9 rfl (ycv Tryz.underlying40 Tryz.underlying3 rfl rfl) <| Zht 10 rfl (yn rfl) <| Zh1 11 (by kernel_rfl) <| Zoe rfl (es 0 rfl rfl rfl rfl rfl) <| Zwh0 1 rfl <| Zhn (by kernel_rfl) <| Zxn <| Znx <| Zrg <| Zv (yadd (s := 2) rfl rfl rfl) <| Zv (ym rfl) ?_
              refine Znl ?_
              rw [part_r]
              refine Zlr ⟨2, by omega⟩ (by show 3 - 2 < 3 - 1; omega) ⟨rfl, rfl, rfl, rfl, rfl, rfl, rfl, rfl, trivial⟩ [2, 0, 1, 1, 1, 1, 1] 1 rfl rfl
          · cases rs2
            · refine Zv (yeb (j := 2) (s := 3) 6 Tryz.underlying363 rfl rfl (by decide) rfl) <| Zv (yda (m := 3) 0 rfl rfl rfl rfl) <| Ze (eal z362) fun b8 => Zw <| Ze (esw 0 (m := 3) rfl rfl rfl rfl rfl rfl rfl) <| Zw0 <| Znl <| Znx <| Zsr <| Zv (yf 0 rfl) <| Zv (yd 0 rfl rfl rfl) <| Znl <| Znx ?_
              refine Zcf rfl <| Zsk <| Zxn <| Znx <| Zrg <| Zv (yadd (s := 3) rfl rfl rfl) <| Zv (ym rfl) <| Znl ?_
              refine Zlr ⟨3, by omega⟩ (by show 3 - 3 < 3 - 2; omega) ⟨rfl, rfl, rfl, rfl, rfl, rfl, rfl, rfl, trivial⟩ [1, 1, 1, 1, 1, 1, 1] 1 rfl rfl
            · refine Zv (yeb (j := 2) (s := 3) 6 Tryz.underlying363 rfl rfl (by decide) rfl) <| Zv (yda (m := 3) (vs := [.bool true, .pointer (some ⟨b6, 3, none⟩), .int .i64 20]) 0 rfl rfl rfl rfl) <| Ze (eal z362) fun b8 => Zw <| Ze (esw 0 (m := 3) rfl rfl rfl rfl rfl rfl rfl) <| Zw0 <| Znl <| Znx <| Zsr <| Zv (yf 0 rfl) <| Zv (yd 0 rfl rfl rfl) <| Znl <| Znx ?_
              refine Zct rfl ?_
              refine Zhd [2] rfl rfl <| Zht 0 rfl (yf 1 rfl) <| Zht 1 rfl (yd 0 rfl rfl rfl) <| Zht 2 rfl (yd 4 rfl rfl rfl) <| Zht 3 rfl (yf 2 rfl) <| Zht 4 rfl (yd 0 rfl rfl rfl) <| Zht 5 rfl (yadd (s := 24) rfl rfl rfl) <| Zht 6 rfl (yf 2 rfl) <| Zht 7 rfl (yd 0 rfl rfl rfl) ?_
              refine Zh1 8 (by kernel_rfl) <| Zok (c237 w 24 20) [] rfl rfl rfl <| Zqh 1 rfl <| Zht 9 rfl (ycv Tryz.underlying40 Tryz.underlying3 rfl rfl) <| Zht 10 rfl (yn rfl) <| Zh1 11 (by kernel_rfl) <| Zoe rfl (es 0 rfl rfl rfl rfl rfl) <| Zwh0 1 rfl <| Zhn (by kernel_rfl) <| Zxn <| Znx <| Zrg <| Zv (yadd (s := 3) rfl rfl rfl) <| Zv (ym rfl) ?_
              refine Znl ?_
              rw [part_r]
              refine Zlr ⟨3, by omega⟩ (by show 3 - 3 < 3 - 2; omega) ⟨rfl, rfl, rfl, rfl, rfl, rfl, rfl, rfl, trivial⟩ [2, 0, 1, 1, 1, 1, 1] 1 rfl rfl
        · have hi : i.1 = 3 := by have := i.2; omega
          obtain ⟨i, hi'⟩ := i
          replace hi : i = 3 := hi
          subst hi
          replace h70 : fa = _ := h70
          subst h70
          cases rd <;> cases rs1 <;> cases rs2 <;> rfl
        · have hi : i.1 = 3 := by have := i.2; omega
          obtain ⟨i, hi'⟩ := i
          replace hi : i = 3 := hi
          subst hi
          replace h70 : fa = _ := h70
          subst h70
          cases rd <;> cases rs1 <;> cases rs2 <;> rfl
end Go.Proofs.YtpfijldkkfiooaaGreatDoor
namespace Go.Proofs.YtpfijldkkfiooaaGreatDoor
theorem c205 (w : Int) : Sp Tryz.prog 205 [.int .u32 w] [spC] fun K => K (.returned (.tuple #[.agg (insE.arr (decF w).1), .bool (decF w).2])) [spC] := c205' q260 w
end Go.Proofs.YtpfijldkkfiooaaGreatDoor
namespace Go.Proofs.YtpfijldkkfiooaaGreatDoor
set_option maxRecDepth 4000
theorem c298 (b : Bool) (b1 b2 : Nat) (x y : Int) : Sp Tryz.prog 298 [.bool b, .pointer (some ⟨b1, 0, none⟩), .pointer (some ⟨b2, 0, none⟩)] [.blk b1 40 [.int .u32 x], .blk b2 40 [.int .u32 y]] fun K => K (.returned (.int .u32 (if b = true then x else y))) [.blk b1 40 [.int .u32 x], .blk b2 40 [.int .u32 y]] := by
  refine Zen Tryz.func298 rfl rfl rfl fun e X Φ hS => Zsr <| Zv (ya rfl) <| Znl <| Znx <| Zsq <| Zsr <| Zv (ym rfl) <| Znl <| Znx ?_
  refine Zib rfl (fun h5 => ?_) (fun h5 => ?_)
  refine Zsr <| Zv (yd 0 rfl rfl rfl) <| Zv (ya rfl) <| Znl <| Znx <| Zrt <| Zr1 <| Zre (.t rfl .n) hS [0,0] 0 ?_ rfl rfl rfl
  rotate_left
  refine Zsk <| Znx <| Zsr <| Zv (yd 1 rfl rfl rfl) <| Zv (ya rfl) <| Znl <| Znx <| Zrt <| Zre (.t rfl .n) hS [0,0] 0 ?_ rfl rfl rfl
  rotate_left
  all_goals simp [pk, *]
def amoF (op was v : Int) : Int × Int :=
  if op = 50 then (v, 0) else if op = 51 then (w32 (was + v), 0) else if op = 52 then (xorF was v, 0) else if op = 53 then (andF was v, 0) else if op = 54 then (orF was v, 0)
  else if op = 55 then (if s32 was < s32 v then was else v, 0) else if op = 56 then (if s32 v < s32 was then was else v, 0)
  else if op = 57 then (if was < v then was else v, 0) else if op = 58 then (if v < was then was else v, 0) else (0, 2)
theorem c253 (op was v : Int) : Sp Tryz.prog 253 [.int .i64 op, .int .u32 was, .int .u32 v] [] fun K => ∀ x e, amoF op was v = (x, e) → K (.returned (.tuple #[.int .u32 x, .int .i64 e])) [] := by
  refine Zen Tryz.func253 rfl rfl rfl fun e X Φ hS => Zsr <| Ze (ebx rfl) fun b4 => Zw <| Ze (ebx rfl) fun b5 => Zw <| Zv (ya rfl) <| Zv (ya rfl) <| Znl <| Znx <| Zsr <| Zv (yfn rfl rfl) ?_
  refine Zv (ya rfl) <| Znl <| Znx <| Zsq <| Zsr <| Zv (ym rfl) <| Znl <| Znx <| Zbl <| Zsr ?_
  refine Zv (yeq rfl rfl) <| Zv (ya rfl) <| Znl <| Znx <| Zif rfl (fun h11 => ?_) (fun h11 => ?_)
  refine Zsr <| Zv (yd 0 rfl rfl rfl) <| Zv (ya rfl) <| Zv (ya rfl) <| Znl <| Znx <| Zrt <| Zr2 <| Zr1 ?_
  rotate_left
  refine Zsr <| Zv (yeq rfl rfl) <| Zv (ya rfl) <| Znl <| Znx <| Zif rfl (fun h14 => ?_) (fun h14 => ?_)
  refine Zsr <| Zv (yd 1 rfl rfl rfl) <| Zv (yd 0 rfl rfl rfl) <| Zk (c239 ..) [] rfl rfl <| Zq <| Zv (ya rfl) <| Zv (ya rfl) <| Znl <| Znx <| Zrt ?_
  refine Zr2 <| Zr1 ?_
  rotate_left
  refine Zsr <| Zv (yeq rfl rfl) <| Zv (ya rfl) <| Znl <| Znx <| Zif rfl (fun h19 => ?_) (fun h19 => ?_)
  refine Zsr <| Zv (yd 1 rfl rfl rfl) <| Zv (yd 0 rfl rfl rfl) <| Zv (yxor rfl rfl rfl) <| Zv (ya rfl) <| Zv (ya rfl) <| Znl <| Znx <| Zrt <| Zr2 ?_
  refine Zr1 ?_
  rotate_left
  refine Zsr <| Zv (yeq rfl rfl) <| Zv (ya rfl) <| Znl <| Znx <| Zif rfl (fun h24 => ?_) (fun h24 => ?_)
  refine Zsr <| Zv (yd 1 rfl rfl rfl) <| Zv (yd 0 rfl rfl rfl) <| Zv (yand rfl rfl rfl) <| Zv (ya rfl) <| Zv (ya rfl) <| Znl <| Znx <| Zrt <| Zr2 ?_
  refine Zr1 ?_
  rotate_left
  refine Zsr <| Zv (yeq rfl rfl) <| Zv (ya rfl) <| Znl <| Znx <| Zif rfl (fun h29 => ?_) (fun h29 => ?_)
  refine Zsr <| Zv (yd 1 rfl rfl rfl) <| Zv (yd 0 rfl rfl rfl) <| Zv (yor rfl rfl rfl) <| Zv (ya rfl) <| Zv (ya rfl) <| Znl <| Znx <| Zrt <| Zr2 ?_
  refine Zr1 ?_
  rotate_left
  refine Zsr <| Zv (yeq rfl rfl) <| Zv (ya rfl) <| Znl <| Znx <| Zif rfl (fun h34 => ?_) (fun h34 => ?_)
  refine Zsr <| Zv (ym rfl) <| Zv (yd 1 rfl rfl rfl) <| Zv (yd 0 rfl rfl rfl) <| Zk (c268 ..) [] rfl rfl <| Zq <| Zkv (c298 ..) [1,0] rfl rfl rfl rfl <| Zq <| Zv (ya rfl) <| Zv (ya rfl) ?_
  refine Znl <| Znx <| Zrt <| Zr2 <| Zr1 ?_
  rotate_left
  refine Zsr <| Zv (yeq rfl rfl) <| Zv (ya rfl) <| Znl <| Znx <| Zif rfl (fun h41 => ?_) (fun h41 => ?_)
  refine Zsr <| Zv (ym rfl) <| Zv (yd 0 rfl rfl rfl) <| Zv (yd 1 rfl rfl rfl) <| Zk (c268 ..) [] rfl rfl <| Zq <| Zkv (c298 ..) [1,0] rfl rfl rfl rfl <| Zq <| Zv (ya rfl) <| Zv (ya rfl) ?_
  refine Znl <| Znx <| Zrt <| Zr2 <| Zr1 ?_
  rotate_left
  refine Zsr <| Zv (yeq rfl rfl) <| Zv (ya rfl) <| Znl <| Znx <| Zif rfl (fun h48 => ?_) (fun h48 => ?_)
  refine Zsr <| Zv (ym rfl) <| Zv (yd 1 rfl rfl rfl) <| Zv (yd 0 rfl rfl rfl) <| Zk (c269 ..) [] rfl rfl <| Zq <| Zkv (c298 ..) [1,0] rfl rfl rfl rfl <| Zq <| Zv (ya rfl) <| Zv (ya rfl) ?_
  refine Znl <| Znx <| Zrt <| Zr2 <| Zr1 ?_
  rotate_left
  refine Zsr <| Zv (yeq rfl rfl) <| Zv (ya rfl) <| Znl <| Znx <| Zif rfl (fun h55 => ?_) (fun h55 => ?_)
  refine Zsr <| Zv (ym rfl) <| Zv (yd 0 rfl rfl rfl) <| Zv (yd 1 rfl rfl rfl) <| Zk (c269 ..) [] rfl rfl <| Zq <| Zkv (c298 ..) [1,0] rfl rfl rfl rfl <| Zq <| Zv (ya rfl) <| Zv (ya rfl) ?_
  refine Znl <| Znx <| Zrt <| Zr2 <| Zr1 ?_
  rotate_left
  refine Zsk <| Zxn <| Znx <| Zsr <| Zv (ya rfl) <| Zv (ya rfl) <| Znl <| Znx <| Zrt ?_
  rotate_left
  all_goals refine Zre (.t rfl (.t rfl .n)) (hS _ _ (by simp only [amoF, *, if_true, if_false, decide_eq_true_eq]; try rfl)) [] 2 rfl rfl rfl rfl
def goesF (h : Hrt) : Bool := decide (h.cause = 0)
theorem c160 (h : Hrt) (ok : h.Ok := by assumption) : Sp Tryz.prog 160 [.agg (hrtE.arr h)] [] fun K => K (.returned (.bool (goesF h))) [] := by
  refine Zen Tryz.func160 rfl rfl rfl fun e X Φ hS => Zsr <| Ze (ebxE rfl) fun b1 => Zw <| Zv (ya rfl) <| Znl <| Znx <| Zsr <| Zv (ydw 0 rfl rfl (Enc.len ..)) <| Zk (c204 ..) [] rfl rfl <| Zq ?_
  refine Zv (yeq rfl rfl) <| Zv (ym rfl) <| Zg rfl rfl <| Zv (yf 34 rfl) <| Zg rfl rfl <| Zv (yd 0 rfl rfl (nt_cause _)) <| Zg rfl rfl <| Zv (yeq rfl rfl) <| Zv (ypt rfl rfl) <| Zv (ya rfl) ?_
  refine Znl <| Znx <| Zrt <| Zre (.t rfl .n) hS [] 1 rfl rfl rfl rfl
def ansF (a : Acc) (x : Ans) : Ans :=
  if a.kind = 1 ∨ a.kind = 3 ∨ a.kind = 5 then ⟨w32 ((w64 x.value).tmod (w64 (1 * 2 ^ min (8 * a.width).toNat IntKind.u64.bits))), false⟩
  else if a.kind = 4 then ⟨0, x.ok⟩ else ans0
theorem c163 (a : Acc) (x : Ans) (h0 : 0 ≤ a.width := by assumption) (h4 : a.width ≤ 4 := by assumption) : Sp Tryz.prog 163 [.agg (accE.arr a), .agg (ansE.arr x)] [] fun K => K (.returned (.agg (ansE.arr (ansF a x)))) [] := by
  have hz : IntKind.u64.wrap (1 * 2 ^ min (8 * a.width).toNat IntKind.u64.bits) ≠ 0 := by
    have : a.width = 0 ∨ a.width = 1 ∨ a.width = 2 ∨ a.width = 3 ∨ a.width = 4 := by omega
    rcases this with h | h | h | h | h <;> rw [h] <;> decide
  refine Zen Tryz.func163 rfl rfl rfl fun e X Φ hS => Zsr <| Ze (ebxE rfl) fun b2 => Zw <| Ze (ebxE rfl) fun b3 => Zw <| Ze (eal z46) fun b4 => Zw <| Znl <| Znx <| Zsq <| Zsr <| Zv (yf 0 rfl) ?_
  refine Zv (yd 2 rfl rfl rfl) <| Znl <| Znx <| Zbl <| Zsq <| Zsr <| Zv (yeq rfl rfl) <| Zv (ya rfl) <| Znl <| Znx ?_
  refine Zif rfl (fun h7 => ?_) (fun h7 => ?_)
  refine Zsk <| Znx <| Zct' rfl (decide_eq_true h7) <| Zsq <| Zhe 10 rfl <| Zht 0 rfl (yf 0 rfl) <| Zht 1 rfl (yd 1 rfl rfl rfl) <| Zht 2 rfl (ycv Tryz.underlying40 Tryz.underlying330 rfl rfl) <| Zht 3 rfl (yf 2 rfl) <| Zht 4 rfl (yd 2 rfl rfl rfl) ?_
  refine Zht 5 rfl (ymul rfl rfl (i64w rfl (by omega))) <| Zht 6 rfl (yshl rfl rfl (by omega) rfl) <| Zht 7 rfl (yrem rfl rfl (by assumption) rfl) <| Zht 8 rfl (ycv Tryz.underlying330 Tryz.underlying40 rfl rfl) <| Zht 9 rfl (yb l46 rfl) <| Zhn (by kernel_rfl) <| Ztl rfl <| Zte (esw 0 rfl rfl rfl rfl rfl rfl rfl) <| Ztw <| Ztn <| Znx ?_
  refine Zrt <| Zr2 <| Zr1 <| Zre (.wh 0 rfl rfl rfl .n) hS [] 3 ?_ rfl rfl rfl
  rotate_left
  refine Zsr <| Zv (yeq rfl rfl) <| Zv (ya rfl) <| Znl <| Znx <| Zif rfl (fun h7 => ?_) (fun h7 => ?_)
  refine Zsk <| Znx <| Zct' rfl (decide_eq_true h7) <| Zsq <| Zhe 10 rfl <| Zht 0 rfl (yf 0 rfl) <| Zht 1 rfl (yd 1 rfl rfl rfl) <| Zht 2 rfl (ycv Tryz.underlying40 Tryz.underlying330 rfl rfl) <| Zht 3 rfl (yf 2 rfl) <| Zht 4 rfl (yd 2 rfl rfl rfl) ?_
  refine Zht 5 rfl (ymul rfl rfl (i64w rfl (by omega))) <| Zht 6 rfl (yshl rfl rfl (by omega) rfl) <| Zht 7 rfl (yrem rfl rfl (by assumption) rfl) <| Zht 8 rfl (ycv Tryz.underlying330 Tryz.underlying40 rfl rfl) <| Zht 9 rfl (yb l46 rfl) <| Zhn (by kernel_rfl) <| Ztl rfl <| Zte (esw 0 rfl rfl rfl rfl rfl rfl rfl) <| Ztw <| Ztn <| Znx ?_
  refine Zrt <| Zr2 <| Zr1 <| Zre (.wh 0 rfl rfl rfl .n) hS [] 3 ?_ rfl rfl rfl
  rotate_left
  refine Zrg <| Zv (yeq rfl rfl) <| Zv (ya rfl) <| Znl <| Znx <| Zif rfl (fun h7 => ?_) (fun h7 => ?_)
  refine Zsq <| Zhe 10 rfl <| Zht 0 rfl (yf 0 rfl) <| Zht 1 rfl (yd 1 rfl rfl rfl) <| Zht 2 rfl (ycv Tryz.underlying40 Tryz.underlying330 rfl rfl) <| Zht 3 rfl (yf 2 rfl) <| Zht 4 rfl (yd 2 rfl rfl rfl) <| Zht 5 rfl (ymul rfl rfl (i64w rfl (by omega))) <| Zht 6 rfl (yshl rfl rfl (by omega) rfl) <| Zht 7 rfl (yrem rfl rfl (by assumption) rfl) ?_
  refine Zht 8 rfl (ycv Tryz.underlying330 Tryz.underlying40 rfl rfl) <| Zht 9 rfl (yb l46 rfl) <| Zhn (by kernel_rfl) <| Ztl rfl <| Zte (esw 0 rfl rfl rfl rfl rfl rfl rfl) <| Ztw <| Ztn <| Znx <| Zrt <| Zr2 <| Zr1 ?_
  refine Zre (.wh 0 rfl rfl rfl .n) hS [] 3 ?_ rfl rfl rfl
  rotate_left
  refine Zsr <| Zv (yeq rfl rfl) <| Zv (ya rfl) <| Znl <| Znx <| Zif rfl (fun h21 => ?_) (fun h21 => ?_)
  refine Zsr <| Zv (yf 1 rfl) <| Zv (yd 1 rfl rfl rfl) <| Zv (yb l46 rfl) <| Ze (esw 0 rfl rfl rfl rfl rfl rfl rfl) <| Zw0 <| Znl <| Znx <| Zrt <| Zr2 <| Zr1 ?_
  refine Zre (.wh 0 rfl rfl rfl .n) hS [] 3 ?_ rfl rfl rfl
  rotate_left
  refine Zsk <| Zxn <| Znx <| Zsr <| Zv (yb l46 rfl) <| Ze (esw 0 rfl rfl rfl rfl rfl rfl rfl) <| Zw0 <| Znl <| Znx <| Zrt <| Zre (.wh 0 rfl rfl rfl .n) hS [] 3 ?_ rfl rfl rfl
  rotate_left
  · rw [show ansF a x = _ from if_pos (.inl h7)]; rfl
  · rw [show ansF a x = _ from if_pos (.inr (.inl h7))]; rfl
  · rw [show ansF a x = _ from if_pos (.inr (.inr h7))]; rfl
  · rw [show ansF a x = _ from (if_neg (by omega)).trans (if_pos ‹_›)]; rfl
  · rw [show ansF a x = _ from (if_neg (by omega)).trans (if_neg ‹_›)]; rfl
end Go.Proofs.YtpfijldkkfiooaaGreatDoor
namespace Go.Proofs.YtpfijldkkfiooaaGreatDoor
set_option maxRecDepth 4000
theorem r161 (p : Value) : Ct Tryz.prog 161 [p] .returning .returning [] [] := by
  refine ZenS Tryz.func161 rfl rfl rfl rfl rfl rfl (fun _ _ => rfl) (.inl ⟨rfl, rfl, rfl⟩) fun e X c₀ cs => ?_
  refine Zbl <| Zsr <| Zv (yii Tryz.underlying20 rfl) <| Znl <| Znx <| Zct rfl <| Zrg <| Zv (ya rfl) <| Znl <| Zxn ?_
  refine ZeS [] 0 (fun w' hp => ⟨rfl, rfl, hp⟩) rfl rfl
theorem p161 (b q t : Nat) (c : Int) (cs cs' : List Value) (hp : put cs q (.int .i64 c) = some cs') : Ct Tryz.prog 161 [.pointer (some ⟨b, q, none⟩)] (pa (stopV c) false) (pa (stopV c) true) [.blk b t cs] [.blk b t cs'] := by
  refine ZenS Tryz.func161 rfl rfl rfl rfl rfl rfl (fun _ _ => rfl) (.inr ⟨rfl, rfl⟩) fun e X c₀ cs => ?_
  refine Zbl <| Zsr <| Zv (yin Tryz.underlying20 rfl) <| Znl <| Znx <| Zcf rfl <| Zsr <| Zv (yta Tryz.underlying328 rfl rfl) <| Zv (yx rfl rfl) <| Zv (yx rfl rfl) ?_
  refine Znl <| Znx <| Zct rfl <| Zsr <| Ze (eal z328) fun b3 => Zw <| Ze (esw 0 rfl rfl rfl rfl rfl rfl rfl) <| Zw0 <| Znl <| Znx <| Zrg <| Zv (ym rfl) ?_
  refine Zv (yf 0 rfl) <| Zv (yd 0 rfl rfl rfl) <| Zv (yn rfl) ?_
  refine Ze (es 1 rfl rfl rfl hp rfl) <| Zw0 <| Znl <| Zxn ?_
  refine ZeS [1] 1 (fun w' hp => ⟨rfl, rfl, hp⟩) rfl rfl
theorem wid_le (op : Int) : 0 ≤ widF op ∧ widF op ≤ 4 := by
  unfold widF
  cases h : lk op widL with
  | none => exact ⟨by decide, by decide⟩
  | some v =>
    have := lk_mem h
    simp only [widL, List.mem_cons, Prod.mk.injEq, List.not_mem_nil, or_false] at this
    rcases this with ⟨_, rfl⟩ | ⟨_, rfl⟩ | ⟨_, rfl⟩ | ⟨_, rfl⟩ | ⟨_, rfl⟩ | ⟨_, rfl⟩ | ⟨_, rfl⟩ | ⟨_, rfl⟩ <;> exact ⟨by decide, by decide⟩
structure Acc.Ok (a : Acc) : Prop where
  k0 : 0 ≤ a.kind
  k1 : a.kind ≤ 6
  ad : U32 a.addr
  w0 : 0 ≤ a.width
  w1 : a.width ≤ 4
  va : U32 a.value
theorem low_u {n : Int} (h : U32 n) (w : Int) : U32 (lowF n w) := by
  unfold lowF
  split
  · exact w32_u _
  · split
    · exact w32_u _
    · exact h
theorem Acc.ok_mk {k ad w v o : Int} {q r : Bool} (hk : (decide (0 ≤ k) && decide (k ≤ 6)) = true) (ha : U32 ad) (h0 : 0 ≤ w) (h1 : w ≤ 4) (hv : U32 v) : Acc.Ok ⟨k, ad, w, v, o, q, r⟩ := by
  rw [Bool.and_eq_true, decide_eq_true_eq, decide_eq_true_eq] at hk
  exact ⟨hk.1, hk.2, ha, h0, h1, hv⟩
theorem acc_ok {h : Hrt} {i : Ins} (ok : h.Ok) (io : i.Ok) : (accF h i).Ok := by
  have hw := wid_le i.op
  unfold accF
  split
  · exact Acc.ok_mk (by decide) u0 (by decide) (by decide) io.im
  split
  · exact Acc.ok_mk (by decide) (w32_u _) hw.1 hw.2 u0
  split
  · exact Acc.ok_mk (by decide) (w32_u _) hw.1 hw.2 (low_u (ok.reg _) _)
  split
  · exact Acc.ok_mk (by decide) (ok.reg _) (by decide) (by decide) u0
  split
  · exact Acc.ok_mk (by decide) (ok.reg _) (by decide) (by decide) (ok.reg _)
  split
  · exact Acc.ok_mk (by decide) (ok.reg _) (by decide) (by decide) (ok.reg _)
  · exact Acc.ok_mk (by decide) u0 (by decide) (by decide) u0
def rdyF (h : Hrt) (w size : Int) : Except Int (Ins × Acc × Int) :=
  if (decF w).2 = false then .error 2
  else if decide ((decF w).1.op ≠ 39) = false then .error 1
  else if 0 < (accF h (decF w).1).width then
    if decide ((accF h (decF w).1).addr.tmod (accF h (decF w).1).width = 0) = false then .error 3
    else if decide ((accF h (decF w).1).addr + (accF h (decF w).1).width ≤ size) = false then .error 4
    else if (nxtF h (decF w).1).2 = false then .error 3 else .ok ((decF w).1, accF h (decF w).1, (nxtF h (decF w).1).1)
  else if (nxtF h (decF w).1).2 = false then .error 3 else .ok ((decF w).1, accF h (decF w).1, (nxtF h (decF w).1).1)
theorem c162 (h : Hrt) (w size : Int) (ok : h.Ok := by assumption) : Sp Tryz.prog 162 [.agg (hrtE.arr h), .int .u32 w, .int .i64 size] [spC] fun K => (∀ i a p, rdyF h w size = .ok (i, a, p) → K (.returned (.tuple #[.agg (insE.arr i), .agg (accE.arr a), .int .u32 p])) [spC]) ∧ (∀ c, rdyF h w size = .error c → K (.panicked (panV (stopV c))) [spC]) := by
  have io := dec_ok w
  have h1 := io.s1
  have h2 := io.s2
  have ao := acc_ok ok io
  have ha := ao.ad
  have hw0 := ao.w0
  have hw1 := ao.w1
  unfold U32 at ha
  refine Zen Tryz.func162 rfl rfl rfl fun e X Φ hS => Zsr <| Ze (ebxE rfl) fun b3 => Zw <| Ze (eal z167) fun b6 => Zw <| Ze (eal z44) fun b7 => Zw <| Zv (ya rfl) <| Znl <| Znx <| Zsr <| Zv (ym rfl) ?_
  refine Zk (c205 ..) [3] rfl rfl <| Zq <| Zv (ym rfl) <| Zv (yx rfl rfl) <| Zv (yx rfl rfl) <| Ze (eal z167) fun b9 => Zw <| Ze (esw 0 rfl rfl rfl rfl rfl rfl rfl) <| Zw0 <| Zv (ya rfl) <| Znl <| Znx ?_
  refine Zsr <| Zv (ym rfl) <| Zk (c206 ..) [] rfl rfl <| ⟨?_, ?_⟩
  refine fun a => Zq <| Znl <| Znx <| Zsr <| Zv (yf 0 rfl) <| Zv (yd 0 rfl rfl rfl) <| Zv (yne rfl rfl) <| Zk (c206 ..) [] rfl rfl <| ⟨?_, ?_⟩
  refine fun a_1 => Zq <| Znl <| Znx <| Zsr <| Zv (ydw 4 rfl rfl (Enc.len ..)) <| Zv (ydw 0 rfl rfl (Enc.len ..)) <| Zk (c207 ..) [] rfl rfl <| Zq <| Ze (eal z44) fun b11 => Zw ?_
  refine Ze (esw 0 rfl rfl rfl rfl rfl rfl rfl) <| Zw0 <| Znl <| Znx <| Zsq <| Zsr <| Zv (yf 2 rfl) <| Zv (yd 0 rfl rfl rfl) <| Zv (ygt rfl rfl) <| Znl <| Znx ?_
  refine Zif rfl (fun h28 => ?_) (fun h28 => ?_)
  refine Zsr <| Zv (yf 1 rfl) <| Zv (yd 0 rfl rfl rfl) <| Zv (yf 2 rfl) <| Zv (yd 0 rfl rfl rfl) <| Zv (ycv Tryz.underlying3 Tryz.underlying40 rfl (u32w rfl (by omega))) <| Zv (yrem rfl rfl (by omega) rfl) <| Zv (yeq rfl rfl) <| Zk (c206 ..) [] rfl rfl <| ⟨?_, ?_⟩
  refine fun a_2 => Zq <| Znl <| Znx <| Zrg <| Zv (yf 1 rfl) <| Zv (yd 0 rfl rfl rfl) <| Zv (ycv Tryz.underlying40 Tryz.underlying2 rfl (i64w rfl (by omega))) <| Zv (yf 2 rfl) <| Zv (yd 0 rfl rfl rfl) ?_
  refine Zv (yadd rfl rfl (i64w rfl (by omega))) <| Zv (ym rfl) <| Zv (yle rfl rfl) <| Zk (c206 ..) [] rfl rfl <| ⟨?_, ?_⟩
  refine fun a_3 => Zq <| Znl <| Znx <| Zsq <| Zhd [4,3] rfl rfl <| Zht 0 rfl (ydw 1 rfl rfl (Enc.len ..)) <| Zht 1 rfl (ydw 0 rfl rfl (Enc.len ..)) <| Zht 2 rfl (ydw 3 rfl rfl (Enc.len ..)) <| Zht 3 rfl (ydw 1 rfl rfl (Enc.len ..)) ?_
  refine Zh1 4 (by kernel_rfl) <| Zok (c208 ..) [] rfl rfl rfl <| ⟨?_, ?_⟩
  refine fun a_4 => Zqh 2 rfl <| Zh1 5 (by kernel_rfl) <| Zoe rfl (esw 0 rfl rfl rfl rfl rfl rfl rfl) <| Zwh0 2 rfl <| Zh1 6 (by kernel_rfl) <| Zoe rfl (esw 1 rfl rfl rfl rfl rfl rfl rfl) <| Zwh0 2 rfl <| Zht 7 rfl (ya rfl) <| Zhn (by kernel_rfl) <| Znx <| Zrt ?_
  rotate_left
  refine fun a_4 => Zqhp <| Zp1 ?_
  rotate_left
  refine fun a_3 => Zqp <| Zp1 ?_
  rotate_left
  refine fun a_2 => Zqp <| Zp1 <| Zp1 ?_
  rotate_left
  refine Zsk <| Znx <| Zsq <| Zhd [4,3] rfl rfl <| Zht 0 rfl (ydw 1 rfl rfl (Enc.len ..)) <| Zht 1 rfl (ydw 0 rfl rfl (Enc.len ..)) <| Zht 2 rfl (ydw 3 rfl rfl (Enc.len ..)) <| Zht 3 rfl (ydw 1 rfl rfl (Enc.len ..)) <| Zh1 4 (by kernel_rfl) <| Zok (c208 ..) [] rfl rfl rfl <| ⟨?_, ?_⟩
  refine fun a_2 => Zqh 2 rfl <| Zh1 5 (by kernel_rfl) <| Zoe rfl (esw 0 rfl rfl rfl rfl rfl rfl rfl) <| Zwh0 2 rfl <| Zh1 6 (by kernel_rfl) <| Zoe rfl (esw 1 rfl rfl rfl rfl rfl rfl rfl) <| Zwh0 2 rfl <| Zht 7 rfl (ya rfl) <| Zhn (by kernel_rfl) <| Znx <| Zrt ?_
  rotate_left
  refine fun a_2 => Zqhp <| Zp1 ?_
  rotate_left
  refine fun a_1 => Zqp <| Zp1 ?_
  rotate_left
  refine fun a => Zqp <| Zp1 ?_
  rotate_left
  · have hr : rdyF h w size = .ok ((decF w).1, accF h (decF w).1, (nxtF h (decF w).1).1) := by simp only [rdyF, *, reduceCtorEq, reduceIte]
    refine Zre (.wh 0 rfl rfl (Enc.len ..) (.wh 1 rfl rfl (Enc.len ..) (.t rfl .n))) (hS.1 _ _ _ hr) [4] 5 rfl rfl rfl rfl
  · refine Zpe (hS.2 3 (by simp only [rdyF, *, reduceCtorEq, reduceIte])) [4] 5 rfl rfl
  · refine Zpe (hS.2 4 (by simp only [rdyF, *, reduceCtorEq, reduceIte])) [2] 5 rfl rfl
  · refine Zpe (hS.2 3 (by simp only [rdyF, *, reduceCtorEq, reduceIte])) [2] 5 rfl rfl
  · have hr : rdyF h w size = .ok ((decF w).1, accF h (decF w).1, (nxtF h (decF w).1).1) := by simp only [rdyF, *, reduceCtorEq, reduceIte]
    refine Zre (.wh 0 rfl rfl (Enc.len ..) (.wh 1 rfl rfl (Enc.len ..) (.t rfl .n))) (hS.1 _ _ _ hr) [4] 5 rfl rfl rfl rfl
  · refine Zpe (hS.2 3 (by simp only [rdyF, *, reduceCtorEq, reduceIte])) [4] 5 rfl rfl
  · refine Zpe (hS.2 1 (by simp only [rdyF, *, reduceCtorEq, reduceIte])) [1] 4 rfl rfl
  · refine Zpe (hS.2 2 (by simp only [rdyF, *, reduceCtorEq, reduceIte])) [1] 4 rfl rfl
theorem c165 (w : Int) : Sp Tryz.prog 165 [.int .u32 w] [spC] fun K => K (.returned (.tuple #[.int .i64 ((decF w).1.rd : Int), .bool (decide (((decF w).1.rd : Int) ≠ 0))])) [spC] := by
  refine Zen Tryz.func165 rfl rfl rfl fun e X Φ hS => Zsr <| Zv (ya rfl) <| Zv (ya rfl) <| Znl <| Znx <| Zsr <| Zv (ym rfl) <| Zk (c205 ..) [0] rfl rfl <| Zq ?_
  refine Zv (ym rfl) <| Zv (yx rfl rfl) <| Zv (yx rfl rfl) <| Ze (eal z167) fun b4 => Zw <| Ze (esw 0 rfl rfl rfl rfl rfl rfl rfl) <| Zw0 <| Zv (ya rfl) <| Znl <| Znx <| Zsq <| Zhd [] rfl rfl ?_
  refine Zht 0 rfl (yf 1 rfl) <| Zht 1 rfl (yd 0 rfl rfl rfl) <| Zht 2 rfl (yf 1 rfl) <| Zht 3 rfl (yd 0 rfl rfl rfl) <| Zht 4 rfl (yne rfl rfl) <| Zht 5 rfl (ya rfl) <| Zht 6 rfl (ya rfl) <| Zhn (by kernel_rfl) <| Znx <| Zrt ?_
  refine Zre (.t rfl (.t rfl .n)) hS [1] 1 rfl rfl rfl rfl
def actF (h : Hrt) (w size : Int) : Acc × Int × Int :=
  if goesF h = false then (acc0, 0, 2)
  else match rdyF h w size with
    | .ok (_, a, _) => (a, 0, 0)
    | .error c => (acc0, c, 0)
theorem c129 (h : Hrt) (w size : Int) (ok : h.Ok := by assumption) : Sp Tryz.prog 129 [.agg (hrtE.arr h), .int .u32 w, .int .i64 size] [spC] fun K => K (.returned (.tuple #[.agg (accE.arr (actF h w size).1), .int .i64 (actF h w size).2.1, .int .i64 (actF h w size).2.2])) [spC] := by
  refine ZenD Tryz.func129 rfl rfl rfl fun e X Φ hS => Zsr <| Ze (ebxE rfl) fun b3 => Zw <| Ze (eal z44) fun b6 => Zw <| Ze (eal z47) fun b7 => Zw <| Zv (ya rfl) <| Znl <| Znx <| Zsq <| Zsr ?_
  refine Zv (ydw 2 rfl rfl (Enc.len ..)) <| Zk (c160 ..) [] rfl rfl <| Zq <| Zv (ynot rfl) <| Znl <| Znx <| Zib rfl (fun h14 => ?_) (fun h14 => ?_)
  refine Zsr <| Zv (yb l44 rfl) <| Ze (esw 1 rfl rfl rfl rfl rfl rfl rfl) <| Zw0 <| Ze (es 0 rfl rfl rfl rfl rfl) <| Zw0 <| Zv (ya rfl) <| Znl <| Znx <| Zrt <| Zr1 <| ZreD (.wh 1 rfl rfl rfl (.c 0 rfl rfl rfl (.t rfl .n))) hS [3] 3 ?_ rfl rfl rfl
  rotate_left
  refine Zsk <| Znx <| Zsr <| Zdf rfl <| Znl <| Znx <| Zsr <| Zv (ydw 2 rfl rfl (Enc.len ..)) <| Zv (ym rfl) <| Zv (ym rfl) ?_
  refine Zk (c162 ..) [3] rfl rfl <| ⟨?_, ?_⟩
  refine fun i => fun a => fun p => fun a_1 => Zq <| Zv (ym rfl) <| Zv (yx rfl rfl) <| Zv (yx rfl rfl) <| Zv (yx rfl rfl) <| Ze (eal z167) fun b9 => Zw ?_
  refine Ze (eal z44) fun b10 => Zw <| Ze (esw 1 rfl rfl rfl rfl rfl rfl rfl) <| Zw0 <| Ze (esw 0 rfl rfl rfl rfl rfl rfl rfl) <| Zw0 <| Zv (ya rfl) <| Znl <| Znx <| Zsr <| Zv (ydw 0 rfl rfl (Enc.len ..)) <| Ze (esw 4 rfl rfl rfl rfl rfl rfl rfl) <| Zw0 <| Ze (es 3 rfl rfl rfl rfl rfl) <| Zw0 ?_
  refine Zv (ya rfl) <| Znl <| Znx <| Zrt ?_
  rotate_left
  refine fun c => fun a => Zqp <| Zp1 ?_
  rotate_left
  · have h14' : goesF h = false := by simpa using h14
    rw [show actF h w size = (acc0, 0, 2) by simp [actF, h14']]; rfl
  · have h14' : goesF h = true := by simpa using h14
    rw [show actF h w size = (a, 0, 0) by simp [actF, h14', *]] at hS
    exact ZrD (r161 _) [] rfl (.wh 4 rfl rfl (Enc.len ..) (.c 3 rfl rfl rfl (.t rfl .n))) hS [2] 5 rfl rfl rfl
  · have h14' : goesF h = true := by simpa using h14
    rw [show actF h w size = (acc0, c, 0) by simp [actF, h14', *]] at hS
    exact ZpD (p161 _ _ _ _ _ _ rfl) [1] rfl (.wh 2 rfl rfl rfl (.c 0 rfl rfl rfl (.t rfl .n))) hS [1] 3 rfl rfl rfl
end Go.Proofs.YtpfijldkkfiooaaGreatDoor
namespace Go.Proofs.YtpfijldkkfiooaaGreatDoor
set_option maxRecDepth 4000
def Hrt.setPc (h : Hrt) (v : Int) : Hrt := { h with pc := v }
def Hrt.setCause (h : Hrt) (v : Int) : Hrt := { h with cause := v }
theorem pt_pc (h : Hrt) (v : Int) : put (hrtE.cells h) 1 (.int .u32 v) = some (hrtE.cells (h.setPc v)) := rfl
theorem pt_cause (h : Hrt) (v : Int) : put (hrtE.cells h) 34 (.int .i64 v) = some (hrtE.cells (h.setCause v)) := by
  rw [put_set _ _ _ (by rw [show (hrtE.cells h).length = 35 from h.len]; decide)]
  have : (hrtE.cells h).set 34 (.int .i64 v) = Value.int .i64 h.id :: Value.int .u32 h.pc :: (h.regs.map (Value.int .u32) ++ [Value.int .i64 h.cause]).set 32 (.int .i64 v) := rfl
  rw [this, List.set_append_right _ _ (by simp [h.hr])]
  simp [h.hr]
  rfl
def donF (h : Hrt) (w size : Int) (a : Ans) : Hrt × Int :=
  if goesF h = false then (hrt0 0, 2)
  else match rdyF h w size with
    | .error c => (h.setCause c, 0)
    | .ok (i, _, p) => (match valF h i a with
      | some v => if decide ((i.rd : Int) ≠ 0) = true then (h.setReg i.rd v).setPc p else h.setPc p
      | none => h.setPc p, 0)
theorem rdy_ins {h : Hrt} {w size : Int} {i : Ins} {a : Acc} {p : Int} (e : rdyF h w size = .ok (i, a, p)) : i = (decF w).1 ∧ a = accF h i ∧ p = (nxtF h i).1 := by
  unfold rdyF at e
  repeat' split at e
  all_goals first | (cases e; done) | (cases e; exact ⟨rfl, rfl, rfl⟩)
theorem c164 (h : Hrt) (w size : Int) (a : Ans) (ok : h.Ok := by assumption) : Sp Tryz.prog 164 [.agg (hrtE.arr h), .int .u32 w, .int .i64 size, .agg (ansE.arr a)] [spC] fun K => K (.returned (.tuple #[.agg (hrtE.arr (donF h w size a).1), .int .i64 (donF h w size a).2])) [spC] := by
  have io := dec_ok w
  refine ZenD Tryz.func164 rfl rfl rfl fun e X Φ hS => Zsr <| Ze (ebxE rfl) fun b4 => Zw <| Ze (ebxE rfl) fun b7 => Zw <| Ze (eal z59) fun b8 => Zw <| Zv (ya rfl) <| Znl <| Znx <| Zsq <| Zsr ?_
  refine Zv (ydw 2 rfl rfl (Enc.len ..)) <| Zk (c160 ..) [] rfl rfl <| Zq <| Zv (ynot rfl) <| Znl <| Znx <| Zib rfl (fun h17 => ?_) (fun h17 => ?_)
  refine Zsr <| Zv (yb l59 rfl) <| Ze (esw 0 rfl rfl rfl rfl rfl rfl rfl) <| Zw0 <| Zv (ya rfl) <| Znl <| Znx <| Zrt <| Zr1 <| ZreD (.wh 0 rfl rfl rfl (.t rfl .n)) hS [3] 3 ?_ rfl rfl rfl
  rotate_left
  refine Zsk <| Znx <| Zsr <| Zv (ydw 2 rfl rfl (Enc.len ..)) <| Ze (esw 0 rfl rfl rfl rfl rfl (Enc.len ..) (Enc.allL ..)) <| Zw0 <| Znl <| Znx <| Zsr <| Zv (yf 34 rfl) <| Zdf rfl ?_
  refine Znl <| Znx <| Zsr <| Zv (ydw 2 rfl rfl (Enc.len ..)) <| Zv (ym rfl) <| Zv (ym rfl) <| Zk (c162 ..) [3] rfl rfl <| ⟨?_, ?_⟩
  refine fun i => fun a_1 => fun p => fun a_2 => Zq <| Zv (ym rfl) <| Zv (yx rfl rfl) <| Zv (yx rfl rfl) <| Zv (yx rfl rfl) <| Ze (eal z167) fun b10 => Zw ?_
  refine Ze (eal z44) fun b11 => Zw <| Ze (esw 1 rfl rfl rfl rfl rfl rfl rfl) <| Zw0 <| Ze (esw 0 rfl rfl rfl rfl rfl rfl rfl) <| Zw0 <| Zv (ya rfl) <| Znl <| Znx <| Zsq <| Zsr <| Zv (ydw 5 rfl rfl (Enc.len ..)) <| Zv (ydw 1 rfl rfl (Enc.len ..)) ?_
  refine Zv (ydw 4 rfl rfl (Enc.len ..)) ?_
  rotate_left
  refine fun c => fun a_1 => Zqp <| Zp1 ?_
  rotate_left
  · have h' : goesF h = false := by simpa using h17
    rw [show donF h w size a = (hrt0 0, 2) from if_pos h']
    rfl
  · have h' : goesF h = true := by simpa using h17
    obtain ⟨rfl, rfl, rfl⟩ := rdy_ins a_2
    have hi := io.im
    have h1 := io.s1
    have h2 := io.s2
    have h3 := io.d
    refine Zk (c209 h (decF w).1 a) [] rfl rfl <| fun v => fun b => fun a_1 => Zq <| Zv (ym rfl) <| Zv (yx rfl rfl) <| Zv (yx rfl rfl) <| Zv (ya rfl) <| Zv (ya rfl) ?_
    refine Znl <| Znx <| Zsr <| Zv (ym rfl) <| Zv (ym rfl) <| Zgb rfl rfl (fun h37 => ?_) (fun h37 => ?_)
    refine Zg' rfl rfl h37 <| Zv (yf 1 rfl) <| Zg' rfl rfl h37 <| Zv (yd 1 rfl rfl rfl) <| Zg' rfl rfl h37 <| Zv (yne rfl rfl) <| Zv (ypt' rfl h37 rfl) <| Znl <| Znx <| Zif rfl (fun h41 => ?_) (fun h41 => ?_)
    refine Zrg <| Zv (yf 1 rfl) <| Zv (yd 1 rfl rfl rfl) <| Zv (ym rfl) <| Zv (yf 2 rfl) <| Zv (yai Tryz.underlying57 rfl rfl (by omega)) <| Ze (es 3 rfl rfl rfl (pt_reg _ _ _ (by omega)) rfl) <| Zw0 <| Znl <| Znx <| Zsr ?_
    refine Zv (ym rfl) <| Zv (yf 1 rfl) <| Ze (es 3 rfl rfl rfl (pt_pc _ _) rfl) <| Zw0 <| Znl <| Znx <| Zsr <| Zv (ydw 3 rfl rfl (Enc.len ..)) <| Ze (esw 3 rfl rfl rfl rfl (Enc.len ..) (Enc.len ..) (Enc.allL ..)) <| Zw0 <| Zv (ya rfl) <| Znl ?_
    refine Znx <| Zrt ?_
    rotate_left
    refine Zsk <| Znx <| Zsr <| Zv (ym rfl) <| Zv (yf 1 rfl) <| Ze (es 3 rfl rfl rfl (pt_pc _ _) rfl) <| Zw0 <| Znl <| Znx <| Zsr <| Zv (ydw 3 rfl rfl (Enc.len ..)) ?_
    refine Ze (esw 3 rfl rfl rfl rfl (Enc.len ..) (Enc.len ..) (Enc.allL ..)) <| Zw0 <| Zv (ya rfl) <| Znl <| Znx <| Zrt ?_
    rotate_left
    refine Zu' rfl rfl h37 rfl <| Zu' rfl rfl h37 rfl <| Zu' rfl rfl h37 rfl <| Zv (ypf' rfl h37 rfl) <| Znl <| Znx <| Zcf rfl <| Zsk <| Znx <| Zsr ?_
    refine Zv (ym rfl) <| Zv (yf 1 rfl) <| Ze (es 3 rfl rfl rfl (pt_pc _ _) rfl) <| Zw0 <| Znl <| Znx <| Zsr <| Zv (ydw 3 rfl rfl (Enc.len ..)) <| Ze (esw 3 rfl rfl rfl rfl (Enc.len ..) (Enc.len ..) (Enc.allL ..)) <| Zw0 <| Zv (ya rfl) <| Znl ?_
    refine Znx <| Zrt ?_
    rotate_left
    · have e : donF h w size a = (((h.setReg (decF w).1.rd v).setPc (nxtF h (decF w).1).1), 0) := by
        unfold donF
        rw [if_neg (by simp [h']), a_2]
        simp [a_1, h37]
        exact fun h0 => absurd h0 (by simpa using h41)
      rw [e] at hS
      exact ZrD (r161 _) [] rfl (.wh 3 rfl rfl (Enc.len ..) (.t rfl .n)) hS [2] 5 rfl rfl rfl
    · have e : donF h w size a = (h.setPc (nxtF h (decF w).1).1, 0) := by
        unfold donF
        rw [if_neg (by simp [h']), a_2]
        simp [a_1, h37]
        exact fun h0 => absurd (by simpa using h0) h41
      rw [e] at hS
      exact ZrD (r161 _) [] rfl (.wh 3 rfl rfl (Enc.len ..) (.t rfl .n)) hS [2] 5 rfl rfl rfl
    · have e : donF h w size a = (h.setPc (nxtF h (decF w).1).1, 0) := by
        unfold donF
        rw [if_neg (by simp [h']), a_2]
        simp [a_1, h37]
      rw [e] at hS
      exact ZrD (r161 _) [] rfl (.wh 3 rfl rfl (Enc.len ..) (.t rfl .n)) hS [2] 5 rfl rfl rfl
  · have h' : goesF h = true := by simpa using h17
    rw [show donF h w size a = (h.setCause c, 0) by simp [donF, *]] at hS
    exact ZpD (p161 _ _ _ _ _ _ (pt_cause _ _)) [1] rfl (.wh 0 rfl rfl (Enc.len ..) (.t rfl .n)) hS [1] 3 rfl rfl rfl
def wrF (h : Hrt) (w c : Int) : Int × Int := if (decF w).1.rd ≠ 0 ∧ c = 0 then (((decF w).1.rd : Int), h.reg (decF w).1.rd) else (0, 0)
def cmtF (h : Hrt) (w size : Int) (a : Ans) : Hrt × Com × Int :=
  if (actF h w size).2.2 ≠ 0 then (hrt0 0, com0, (actF h w size).2.2)
  else ((donF h w size (ansF (actF h w size).1 a)).1, ⟨h.pc, w, (actF h w size).1, ansF (actF h w size).1 a, (wrF (donF h w size (ansF (actF h w size).1 a)).1 w (actF h w size).2.1).1, (wrF (donF h w size (ansF (actF h w size).1 a)).1 w (actF h w size).2.1).2, (actF h w size).2.1⟩, 0)
theorem act_ok (h : Hrt) (w size : Int) (ok : h.Ok) : (actF h w size).1.Ok := by
  unfold actF
  split
  · exact Acc.ok_mk (by decide) u0 (by decide) (by decide) u0
  · split
    · rename_i e
      obtain ⟨rfl, rfl, rfl⟩ := rdy_ins e
      exact acc_ok ok (dec_ok w)
    · exact Acc.ok_mk (by decide) u0 (by decide) (by decide) u0
theorem c130 (h : Hrt) (w size : Int) (a : Ans) (ok : h.Ok := by assumption) : Sp Tryz.prog 130 [.agg (hrtE.arr h), .int .u32 w, .int .i64 size, .agg (ansE.arr a)] [spC] fun K => K (.returned (.tuple #[.agg (hrtE.arr (cmtF h w size a).1), .agg (comE.arr (cmtF h w size a).2.1), .int .i64 (cmtF h w size a).2.2])) [spC] := by
  have io := dec_ok w
  have h3 := io.d
  have ao := act_ok h w size ok
  have h0 := ao.w0
  have h4 := ao.w1
  refine Zen Tryz.func130 rfl rfl rfl fun e X Φ hS => Zsr <| Ze (ebxE rfl) fun b4 => Zw <| Ze (ebxE rfl) fun b7 => Zw <| Ze (eal z59) fun b8 => Zw <| Ze (eal z49) fun b9 => Zw <| Zv (ya rfl) <| Znl <| Znx <| Zsr ?_
  refine Zv (ydw 3 rfl rfl (Enc.len ..)) <| Zv (ym rfl) <| Zv (ym rfl) <| Zk (c129 ..) [4] rfl rfl <| Zq <| Zv (ym rfl) <| Zv (yx rfl rfl) <| Zv (yx rfl rfl) <| Zv (yx rfl rfl) <| Ze (eal z44) fun b11 => Zw ?_
  refine Ze (esw 0 rfl rfl rfl rfl rfl rfl rfl) <| Zw0 <| Zv (ya rfl) <| Zv (ya rfl) <| Znl <| Znx <| Zsq <| Zsr <| Zv (ym rfl) <| Zv (yne rfl rfl) <| Znl ?_
  refine Znx <| Zif rfl (fun h28 => ?_) (fun h28 => ?_)
  refine Zsr <| Zv (yb l59 rfl) <| Zv (yb l49 rfl) <| Zv (ym rfl) <| Ze (esw 3 rfl rfl rfl rfl rfl rfl rfl) <| Zw0 <| Ze (esw 2 rfl rfl rfl rfl rfl rfl rfl) <| Zw0 <| Zv (ya rfl) <| Znl <| Znx <| Zrt ?_
  refine Zr1 <| Zre (.wh 3 rfl rfl rfl (.wh 2 rfl rfl rfl (.t rfl .n))) hS [1] 5 ?_ rfl rfl rfl
  rotate_left
  refine Zsk <| Znx <| Zsr <| Zv (ydw 0 rfl rfl (Enc.len ..)) <| Zv (ydw 4 rfl rfl (Enc.len ..)) <| Zk (c163 ..) [] rfl rfl <| Zq <| Ze (esw 4 rfl rfl rfl rfl rfl rfl rfl) <| Zw0 <| Znl <| Znx ?_
  refine Zsr <| Zv (ydw 5 rfl rfl (Enc.len ..)) <| Zv (ym rfl) <| Zv (ym rfl) <| Zv (ydw 4 rfl rfl (Enc.len ..)) <| Zk (c164 ..) [1] rfl rfl <| Zq <| Zv (ym rfl) <| Zv (yx rfl rfl) <| Zv (yx rfl rfl) ?_
  refine Ze (eal z59) fun b14 => Zw <| Ze (esw 0 rfl rfl rfl rfl rfl (Enc.len ..) (Enc.allL ..)) <| Zw0 <| Zv (ya rfl) <| Znl <| Znx <| Zsr <| Zv (yf 1 rfl) <| Zv (yd 6 rfl rfl rfl) <| Zv (ym rfl) <| Zv (ydw 2 rfl rfl (Enc.len ..)) ?_
  refine Zv (ydw 5 rfl rfl (Enc.len ..)) <| Zv (ym rfl) <| Zv (yb l49 rfl) <| Ze (eal z49) fun b16 => Zw <| Ze (esw 0 rfl rfl rfl rfl rfl rfl rfl) <| Zw0 <| Znl <| Znx <| Zsq <| Zsr <| Zv (ym rfl) ?_
  refine Zk (c165 ..) [2] rfl rfl <| Zq <| Zv (ym rfl) <| Zv (yx rfl rfl) <| Zv (yx rfl rfl) <| Zv (ya rfl) <| Zv (ya rfl) <| Znl <| Znx <| Zsr ?_
  refine Zv (ym rfl) <| Zv (ym rfl) <| Zgs rfl rfl (fun h56 => ?_) (fun h56 => ?_)
  refine Zg' rfl rfl (decide_eq_true h56) <| Zv (ym rfl) <| Zg' rfl rfl (decide_eq_true h56) <| Zv (yeq rfl rfl) <| Zv (ypt' rfl (decide_eq_true h56) rfl) <| Znl <| Znx <| Zif rfl (fun h59 => ?_) (fun h59 => ?_)
  refine Zhd [1] rfl rfl <| Zht 0 rfl (ym rfl) <| Zht 1 rfl (ym rfl) <| Zht 2 rfl (yf 2 rfl) <| Zht 3 rfl (yai Tryz.underlying57 rfl rfl (by omega)) <| Zht 4 rfl (yd 1 rfl rfl (nt_reg _ _ (by omega))) <| Zht 5 rfl (yf 11 rfl) <| Zh1 6 (by kernel_rfl) <| Zoe rfl (es 0 rfl rfl rfl rfl rfl) <| Zwh0 1 rfl <| Zht 7 rfl (yf 12 rfl) <| Zh1 8 (by kernel_rfl) <| Zoe rfl (es 0 rfl rfl rfl rfl rfl) <| Zwh0 1 rfl ?_
  refine Zhn (by kernel_rfl) <| Znx <| Zsq <| Zhd [5,4] rfl rfl <| Zht 0 rfl (ydw 2 rfl rfl (Enc.len ..)) <| Zht 1 rfl (ydw 0 rfl rfl rfl) <| Zh1 2 (by kernel_rfl) <| Zoe rfl (esw 0 rfl rfl rfl rfl rfl (Enc.len ..) (Enc.allL ..)) <| Zwh0 2 rfl <| Zh1 3 (by kernel_rfl) <| Zoe rfl (esw 1 rfl rfl rfl rfl rfl rfl rfl) <| Zwh0 2 rfl <| Zht 4 rfl (ya rfl) <| Zhn (by kernel_rfl) ?_
  refine Znx <| Zrt <| Zre (.wh 0 rfl rfl (Enc.len ..) (.wh 1 rfl rfl rfl (.t rfl .n))) hS [3] 7 ?_ rfl rfl rfl
  rotate_left
  refine Zsk <| Znx <| Zsq <| Zhd [5,4] rfl rfl <| Zht 0 rfl (ydw 2 rfl rfl (Enc.len ..)) <| Zht 1 rfl (ydw 1 rfl rfl rfl) <| Zh1 2 (by kernel_rfl) <| Zoe rfl (esw 0 rfl rfl rfl rfl rfl (Enc.len ..) (Enc.allL ..)) <| Zwh0 2 rfl <| Zh1 3 (by kernel_rfl) <| Zoe rfl (esw 1 rfl rfl rfl rfl rfl rfl rfl) <| Zwh0 2 rfl <| Zht 4 rfl (ya rfl) <| Zhn (by kernel_rfl) ?_
  refine Znx <| Zrt <| Zre (.wh 0 rfl rfl (Enc.len ..) (.wh 1 rfl rfl rfl (.t rfl .n))) hS [2] 7 ?_ rfl rfl rfl
  rotate_left
  refine Zu' rfl rfl (decide_eq_false h56) rfl <| Zu' rfl rfl (decide_eq_false h56) rfl <| Zv (ypf' rfl (decide_eq_false h56) rfl) <| Znl <| Znx <| Zcf rfl <| Zsk <| Znx <| Zsq <| Zhd [5,4] rfl rfl ?_
  refine Zht 0 rfl (ydw 2 rfl rfl (Enc.len ..)) <| Zht 1 rfl (ydw 1 rfl rfl rfl) <| Zh1 2 (by kernel_rfl) <| Zoe rfl (esw 0 rfl rfl rfl rfl rfl (Enc.len ..) (Enc.allL ..)) <| Zwh0 2 rfl <| Zh1 3 (by kernel_rfl) <| Zoe rfl (esw 1 rfl rfl rfl rfl rfl rfl rfl) <| Zwh0 2 rfl <| Zht 4 rfl (ya rfl) <| Zhn (by kernel_rfl) <| Znx <| Zrt <| Zre (.wh 0 rfl rfl (Enc.len ..) (.wh 1 rfl rfl rfl (.t rfl .n))) hS [2] 7 ?_ rfl rfl rfl
  rotate_left
  · rw [show cmtF h w size a = (hrt0 0, com0, (actF h w size).2.2) from if_pos h28]
    rfl
  · rw [show cmtF h w size a = _ from if_neg h28, show wrF _ w (actF h w size).2.1 = _ from if_pos ⟨by omega, h59⟩]
    rfl
  · rw [show cmtF h w size a = _ from if_neg h28, show wrF _ w (actF h w size).2.1 = _ from if_neg fun h => h59 h.2]
    rfl
  · rw [show cmtF h w size a = _ from if_neg h28, show wrF _ w (actF h w size).2.1 = _ from if_neg fun h => h56 (by omega)]
    rfl
end Go.Proofs.YtpfijldkkfiooaaGreatDoor
namespace Go.Proofs.YtpfijldkkfiooaaGreatDoor
open Go
set_option maxRecDepth 4000
def wE : Enc Tryz.prog Sto where
  T := 212
  n := 3
  cells := Sto.cells
  len _ := rfl
  one x := one_of rfl
  pos := by decide
def wOk (n : Int) : Bool := decide (n = 1) || decide (n = 2) || decide (n = 4)
def okV (s : Sto) : Bool := (decide (s.width = 1) && decide (s.value < 256)) || (decide (s.width = 2) && decide (s.value < 65536)) || decide (s.width = 4)
def chkS (s : Sto) : Int := if okV s then (if s.addr % s.width = 0 then 0 else 120) else 2
structure Sto.Ok (s : Sto) : Prop where
  ad : U32 s.addr
  va : U32 s.value
structure Sto.In (s : Sto) : Prop extends Sto.Ok s where
  ck : chkS s = 0
theorem Sto.In.spec {s : Sto} (h : s.In) : (s.width = 1 ∧ s.value < 256 ∨ s.width = 2 ∧ s.value < 65536 ∨ s.width = 4) ∧ s.addr % s.width = 0 := by
  have h := h.ck
  unfold chkS okV at h
  split at h
  · rename_i h1
    split at h
    · rename_i h2
      simp at h1
      exact ⟨by omega, h2⟩
    · omega
  · omega
structure BufS where
  r0 : Sto
  r1 : Sto
  r2 : Sto
  r3 : Sto
  first : Nat
  n : Nat
deriving DecidableEq
def BufS.cells (x : BufS) : List Value := [.int .u32 x.r0.addr, .int .i64 x.r0.width, .int .u32 x.r0.value, .int .u32 x.r1.addr, .int .i64 x.r1.width, .int .u32 x.r1.value, .int .u32 x.r2.addr, .int .i64 x.r2.width, .int .u32 x.r2.value,
  .int .u32 x.r3.addr, .int .i64 x.r3.width, .int .u32 x.r3.value, .int .i64 ((x.first : Nat) : Int), .int .i64 ((x.n : Nat) : Int)]
def bufE : Enc Tryz.prog BufS where
  T := 245
  n := 14
  cells := BufS.cells
  len := fun _ => rfl
  one := fun _ => one_of rfl
  pos := by decide
def buf0 : BufS := ⟨sto0, sto0, sto0, sto0, 0, 0⟩
def BufS.get (x : BufS) : Nat → Sto
  | 0 => x.r0
  | 1 => x.r1
  | 2 => x.r2
  | _ => x.r3
def BufS.set (x : BufS) (i : Nat) (s : Sto) : BufS :=
  match i with
  | 0 => { x with r0 := s }
  | 1 => { x with r1 := s }
  | 2 => { x with r2 := s }
  | _ => { x with r3 := s }
section
variable {x : BufS} {i j : Nat} {s : Sto}
theorem four {p : Nat → Prop} (h0 : p 0) (h1 : p 1) (h2 : p 2) (h3 : p 3) {i : Nat} (hi : i < 4) : p i := by
  match i, hi with
  | 0, _ => exact h0
  | 1, _ => exact h1
  | 2, _ => exact h2
  | 3, _ => exact h3
theorem get_set (hi : i < 4) (hj : j < 4) : (x.set i s).get j = if i = j then s else x.get j := by
  revert hj
  refine four (p := fun i => j < 4 → (x.set i s).get j = if i = j then s else x.get j) ?_ ?_ ?_ ?_ hi <;> intro hj <;>
    refine four (p := fun j => BufS.get (BufS.set x _ s) j = if _ = j then s else x.get j) ?_ ?_ ?_ ?_ hj <;> rfl
theorem set_first : (x.set i s).first = x.first := by unfold BufS.set; split <;> rfl
theorem set_n : (x.set i s).n = x.n := by unfold BufS.set; split <;> rfl
theorem buf_part (hi : i < 4) : ((bufE.cells x).drop (i * 3)).take 3 = stoE.cells (x.get i) := by
  refine four (p := fun i => ((bufE.cells x).drop (i * 3)).take 3 = stoE.cells (x.get i)) ?_ ?_ ?_ ?_ hi <;> rfl
theorem buf_put (hi : i < 4) : spl (bufE.cells x) (i * 3) (stoE.cells s) = bufE.cells (x.set i s) := by
  refine four (p := fun i => spl (bufE.cells x) (i * 3) (stoE.cells s) = bufE.cells (x.set i s)) ?_ ?_ ?_ ?_ hi <;> rfl
end
structure BufOf (x : BufS) (l : List Sto) : Prop where
  first : x.first < 4
  n : x.n = l.length
  most : l.length ≤ 4
  el : ∀ k, k < l.length → x.get ((x.first + k) % 4) = l.getD k sto0
  al : ∀ s ∈ l, s.In
theorem BufOf.nil : BufOf buf0 [] := ⟨by decide, rfl, by decide, fun k hk => absurd hk (by simp), by simp⟩
def BufS.popd (x : BufS) : BufS := ⟨(x.set (x.first % 4) sto0).r0, (x.set (x.first % 4) sto0).r1, (x.set (x.first % 4) sto0).r2, (x.set (x.first % 4) sto0).r3, (x.first + 1) % 4, x.n - 1⟩
def BufS.pushd (x : BufS) (s : Sto) : BufS := ⟨(x.set ((x.first + x.n) % 4) s).r0, (x.set ((x.first + x.n) % 4) s).r1, (x.set ((x.first + x.n) % 4) s).r2, (x.set ((x.first + x.n) % 4) s).r3, x.first, x.n + 1⟩
theorem get_eq {x y : BufS} (h0 : x.r0 = y.r0) (h1 : x.r1 = y.r1) (h2 : x.r2 = y.r2) (h3 : x.r3 = y.r3) (j : Nat) : x.get j = y.get j := by
  unfold BufS.get
  split <;> assumption
section
variable {x : BufS} {l : List Sto}
theorem BufOf.push (h : BufOf x l) (s : Sto) (hs : s.In) (hl : l.length < 4) : BufOf (x.pushd s) (l ++ [s]) := by
  have h1 := h.first
  have h2 := h.n
  refine ⟨h1, by simp [BufS.pushd, h2], by simp; omega, fun k hk => ?_, by simpa using fun s' hs' => hs'.elim (h.al s') fun e => e ▸ hs⟩
  rw [get_eq (x := x.pushd s) (y := x.set ((x.first + x.n) % 4) s) rfl rfl rfl rfl]
  show (x.set ((x.first + x.n) % 4) s).get ((x.first + k) % 4) = _
  rw [get_set (Nat.mod_lt _ (by decide)) (Nat.mod_lt _ (by decide))]
  simp only [List.length_append, List.length_cons, List.length_nil] at hk
  by_cases hkl : k < l.length
  · rw [if_neg (by omega), h.el k hkl]
    simp [List.getD, List.getElem?_append_left hkl]
  · obtain rfl : k = l.length := by omega
    rw [if_pos (by omega)]
    simp [List.getD]
theorem BufOf.pop (h : BufOf x l) (hl : 0 < l.length) : BufOf x.popd l.tail := by
  have h1 := h.first
  have h2 := h.n
  have h3 := h.most
  refine ⟨Nat.mod_lt _ (by decide), by simp [BufS.popd, h2], by simp; omega, fun k hk => ?_, fun s hs => h.al s (List.mem_of_mem_tail hs)⟩
  simp at hk
  rw [get_eq (x := x.popd) (y := x.set (x.first % 4) sto0) rfl rfl rfl rfl]
  show (x.set (x.first % 4) sto0).get (((x.first + 1) % 4 + k) % 4) = _
  rw [get_set (Nat.mod_lt _ (by decide)) (Nat.mod_lt _ (by decide)), if_neg (by omega), show ((x.first + 1) % 4 + k) % 4 = (x.first + (k + 1)) % 4 by omega, h.el (k + 1) (by omega)]
  simp [List.getD]
end
def bufC (b : Nat) (l : List Sto) : HP := fun h => ∃ X, BufOf X l ∧ Sep [.blk b 245 (bufE.cells X)] h
theorem buf_op {b : Nat} {l : List Sto} : Op_ (bufC b l) fun K => ∀ X, BufOf X l → K [.blk b 245 (bufE.cells X)] := .mk fun G k h hh => by
  obtain ⟨X, h1, h2⟩ := hh
  exact ⟨_, k X h1, h2⟩
theorem buf_fold {b : Nat} {l : List Sto} {X : BufS} (hX : BufOf X l) : ∀ h, Sep [.blk b 245 (bufE.cells X)] h → bufC b l h := fun _ hs => ⟨X, hX, hs⟩
theorem buf_foldc {b : Nat} {l : List Sto} {X : BufS} {cs : List Value} (hX : BufOf X l) (hc : cs = bufE.cells X) : ∀ h, Sep [.blk b 245 cs] h → bufC b l h := hc ▸ buf_fold hX
theorem yaj {P : Program} {N : Nat × List Deferred} {T : Tb} {e : World} {L : List Ck} {x y : Operand} {t ty : TypeId} {pos : String} {af : Array Edge} {g : Option (Nat × Bool)} {dd : Option Nat} {k : IntKind} {b q i len : Nat} {el : TypeId} (s : Nat) {q' : Nat} (hu : P.underlying t = some (.array len el)) (h : evT T x = some (.pointer (some ⟨b, q, none⟩))) (h1 : evT T y = some (.int k ((i : Nat) : Int))) (hi : i < len) (hq : q + i * s = q') (hs : szT P el = some s := by kernel_rfl) : Yl P N T e L ⟨dd, .indexAddr t x y, ty, pos, af, g⟩ (.pointer (some ⟨b, q', none⟩)) := fun _ _ fr _ =>
  x_indexArr hu hs rfl (fr.evT h) (fr.evT h1) hi hq
theorem esc {P : Program} {N : Nat × List Deferred} {T : Tb} {e : World} {L L' : List Ck} {x y : Operand} {t ty : TypeId} {pos : String} {af : Array Edge} {g : Option (Nat × Bool)} {dd : Option Nat} (i : Nat) {b q tb m : Nat} {cs cs' vs : List Value} (h : evT T x = some (.pointer (some ⟨b, q, none⟩))) (h1 : evT T y = some (.agg vs.toArray)) (hL : nth L i = some (.blk b tb cs)) (hc : spl cs q vs = cs') (hL' : put L i (.blk b tb cs') = some L') (hv : vs.length = m) (hq : q + m ≤ cs.length) (h2 : vs.all (·.oneCell') = true) (hm : szT P t = some m := by kernel_rfl) :
    Ef P N T e L ⟨dd, .store t x y, ty, pos, af, g⟩ fun K => K none L' := by subst hc; exact esa i h h1 hL hL' hv hq h2 hm
theorem c292 (n : Int) : Sp Tryz.prog 292 [.int .i64 n] [] fun K => K (.returned (.bool (wOk n))) [] := by
  refine Zen Tryz.func292 rfl rfl rfl fun e X Φ hS => Zsr <| Zv (ya rfl) <| Znl <| Znx <| Zsr <| Zv (ym rfl) <| Zv (yeq rfl rfl) <| Zv (ym rfl) <| Zgs rfl rfl (fun h5 => ?_) (fun h5 => ?_)
  refine Zu' rfl rfl (decide_eq_true h5) rfl <| Zu' rfl rfl (decide_eq_true h5) rfl <| Zv (ypt' rfl (decide_eq_true h5) rfl) <| Zv (ym rfl) <| Zu rfl rfl rfl <| Zu rfl rfl rfl <| Zv (ypt rfl rfl) <| Zv (ya rfl) <| Znl <| Znx ?_
  refine Zrt <| Zre (.t rfl .n) hS [] 0 ?_ rfl rfl rfl
  rotate_left
  refine Zg' rfl rfl (decide_eq_false h5) <| Zv (ym rfl) <| Zg' rfl rfl (decide_eq_false h5) <| Zv (yeq rfl rfl) <| Zv (ypf' rfl (decide_eq_false h5) rfl) <| Zv (ym rfl) <| Zgs rfl rfl (fun h9 => ?_) (fun h9 => ?_)
  refine Zu' rfl rfl (decide_eq_true h9) rfl <| Zu' rfl rfl (decide_eq_true h9) rfl <| Zv (ypt' rfl (decide_eq_true h9) rfl) <| Zv (ya rfl) <| Znl <| Znx <| Zrt <| Zre (.t rfl .n) hS [] 0 ?_ rfl rfl rfl
  rotate_left
  refine Zg' rfl rfl (decide_eq_false h9) <| Zv (ym rfl) <| Zg' rfl rfl (decide_eq_false h9) <| Zv (yeq rfl rfl) <| Zv (ypf' rfl (decide_eq_false h9) rfl) <| Zv (ya rfl) <| Znl <| Znx <| Zrt <| Zre (.t rfl .n) hS [] 0 ?_ rfl rfl rfl
  rotate_left
  · simp [pk, wOk, *]
  · simp [pk, wOk, *]
  · simp [pk, wOk, *]
theorem c294 (s : Sto) (h : U32 s.addr := by assumption) : Sp Tryz.prog 294 [.agg (wE.arr s)] [] fun K => K (.returned (.int .u64 s.addr)) [] := by
  unfold U32 at h
  refine Zen Tryz.func294 rfl rfl rfl fun e X Φ hS => Zsr <| Ze (ebxE rfl) fun b1 => Zw <| Zv (ya rfl) <| Znl <| Znx <| Zsr <| Zv (yf 0 rfl) <| Zv (yf 0 rfl) <| Zv (yd 0 rfl rfl rfl) ?_
  refine Zv (ycv Tryz.underlying40 Tryz.underlying330 rfl (u64w rfl (by omega))) <| Zv (ya rfl) <| Znl <| Znx <| Zrt <| Zre (.t rfl .n) hS [] 1 rfl rfl rfl rfl
theorem c293 (s : Sto) (h : U32 s.addr := by assumption) (hw : wOk s.width = true := by assumption) : Sp Tryz.prog 293 [.agg (wE.arr s)] [] fun K => K (.returned (.int .u64 (s.addr + s.width))) [] := by
  unfold U32 at h
  simp [wOk] at hw
  refine Zen Tryz.func293 rfl rfl rfl fun e X Φ hS => Zsr <| Ze (ebxE rfl) fun b1 => Zw <| Zv (ya rfl) <| Znl <| Znx <| Zsr <| Zv (yf 0 rfl) <| Zv (yf 0 rfl) <| Zv (yd 0 rfl rfl rfl) ?_
  refine Zv (ycv Tryz.underlying40 Tryz.underlying330 rfl (u64w rfl (by omega))) <| Zv (yf 0 rfl) <| Zv (yf 1 rfl) <| Zv (yd 0 rfl rfl rfl) <| Zv (ycv Tryz.underlying3 Tryz.underlying330 rfl (u64w rfl (by omega))) <| Zv (yadd rfl rfl (u64w rfl (by omega))) <| Zv (ya rfl) <| Znl <| Znx <| Zrt ?_
  refine Zre (.t rfl .n) hS [] 1 rfl rfl rfl rfl
theorem chk_no {s : Sto} (h : wOk s.width = false) : chkS s = 2 := by
  unfold chkS okV
  simp [wOk] at h
  simp [h]
theorem shr_at (m : Int) (j : Nat) (h : j ≤ 32) : m.fdiv (2 ^ min j IntKind.u32.bits) = m / 2 ^ j := by
  rw [Int.fdiv_eq_ediv_of_nonneg _ (Int.le_of_lt (Int.pow_pos (by decide))), Nat.min_eq_left (by simpa [IntKind.bits] using h)]
theorem chk_big {s : Sto} (h0 : 0 ≤ s.value) (h : wOk s.width = true) (h4 : s.width < 4) (hv : s.value.fdiv (2 ^ min (8 * s.width).toNat IntKind.u32.bits) ≠ 0) : 2 = chkS s := by
  have : okV s = false := by
    simp [wOk] at h
    unfold okV
    rcases h with (h | h) | h
    · rw [h] at hv ⊢
      rw [shr_at _ _ (by decide)] at hv
      simp at *
      omega
    · rw [h] at hv ⊢
      rw [shr_at _ _ (by decide)] at hv
      simp at *
      omega
    · omega
  unfold chkS
  rw [this]
  rfl
theorem chk_fit {s : Sto} (ha : 0 ≤ s.value) (h : wOk s.width = true) (hv : s.width < 4 → ¬ s.value.fdiv (2 ^ min (8 * s.width).toNat IntKind.u32.bits) ≠ 0) : okV s = true := by
  simp [wOk] at h
  unfold okV
  rcases h with (h | h) | h
  · have hv := hv (by omega)
    rw [h] at hv ⊢
    rw [shr_at _ _ (by decide)] at hv
    simp at *
    omega
  · have hv := hv (by omega)
    rw [h] at hv ⊢
    rw [shr_at _ _ (by decide)] at hv
    simp at *
    omega
  · simp [h]
theorem chk_al {s : Sto} (ha : 0 ≤ s.addr) (ho : okV s = true) : (s.addr.tmod s.width ≠ 0 → 120 = chkS s) ∧ (¬ s.addr.tmod s.width ≠ 0 → 0 = chkS s) := by
  unfold chkS
  rw [if_pos ho, Int.tmod_eq_emod_of_nonneg ha]
  constructor
  · intro h; rw [if_neg h]
  · intro h; rw [if_pos (by simpa using h)]
theorem c297 (s : Sto) (ok : s.Ok) : Sp Tryz.prog 297 [.agg (wE.arr s)] [] fun K => K (.returned (.int .i64 (chkS s))) [] := by
  have ha := ok.ad
  have hv := ok.va
  unfold U32 at ha hv
  cases hk : wOk s.width with
  | true =>
    have hw : s.width = 1 ∨ s.width = 2 ∨ s.width = 4 := by simp [wOk] at hk; omega
    refine Zen Tryz.func297 rfl rfl rfl fun e X Φ hS => Zsr <| Ze (ebxE rfl) fun b1 => Zw <| Zv (ya rfl) <| Znl <| Znx <| Zsq <| Zbl <| Zsr <| Zv (yf 0 rfl) ?_
    refine Zv (yf 1 rfl) <| Zv (yd 0 rfl rfl rfl) <| Zk (c292 ..) [] rfl rfl <| Zq <| Zv (ynot rfl) <| Zv (ym rfl) <| Zg' rfl rfl (congrArg Bool.not hk) <| Zv (yf 0 rfl) <| Zg' rfl rfl (congrArg Bool.not hk) <| Zv (yf 1 rfl) ?_
    refine Zg' rfl rfl (congrArg Bool.not hk) <| Zv (yd 0 rfl rfl rfl) <| Zg' rfl rfl (congrArg Bool.not hk) <| Zv (ylt rfl rfl) <| Zg' rfl rfl (congrArg Bool.not hk) <| Zv (ym rfl) <| Zgs rfl rfl (fun h14 => ?_) (fun h14 => ?_)
    refine Zg' rfl rfl (decide_eq_true h14) <| Zv (yf 0 rfl) <| Zg' rfl rfl (decide_eq_true h14) <| Zv (yf 2 rfl) <| Zg' rfl rfl (decide_eq_true h14) <| Zv (yd 0 rfl rfl rfl) <| Zg' rfl rfl (decide_eq_true h14) <| Zv (yf 0 rfl) <| Zg' rfl rfl (decide_eq_true h14) <| Zv (yf 1 rfl) ?_
    refine Zg' rfl rfl (decide_eq_true h14) <| Zv (yd 0 rfl rfl rfl) <| Zg' rfl rfl (decide_eq_true h14) <| Zv (ymul rfl rfl (i64w rfl (by omega))) <| Zg' rfl rfl (decide_eq_true h14) <| Zv (yshr rfl rfl (by omega) rfl) <| Zg' rfl rfl (decide_eq_true h14) <| Zv (yne rfl rfl) <| Zg' rfl rfl (congrArg Bool.not hk) <| Zv (ypt' rfl (decide_eq_true h14) rfl) ?_
    refine Zv (ypf' rfl (congrArg Bool.not hk) rfl) <| Zv (ya rfl) <| Znl <| Znx <| Zif rfl (fun h3 => ?_) (fun h3 => ?_)
    refine Zsr <| Zv (ya rfl) <| Znl <| Znx <| Zrt <| Zr2 <| Zr1 <| Zre (.t rfl .n) hS [] 1 ?_ rfl rfl rfl
    rotate_left
    refine Zsr <| Zv (yf 0 rfl) <| Zv (yf 0 rfl) <| Zv (yd 0 rfl rfl rfl) <| Zv (yf 0 rfl) <| Zv (yf 1 rfl) <| Zv (yd 0 rfl rfl rfl) <| Zv (ycv Tryz.underlying3 Tryz.underlying40 rfl (u32w rfl (by omega))) <| Zv (yrem rfl rfl (by omega) rfl) <| Zv (yne rfl rfl) ?_
    refine Zv (ya rfl) <| Znl <| Znx <| Zif rfl (fun h26 => ?_) (fun h26 => ?_)
    refine Zsr <| Zv (ya rfl) <| Znl <| Znx <| Zrt <| Zr2 <| Zr1 <| Zre (.t rfl .n) hS [] 1 ?_ rfl rfl rfl
    rotate_left
    refine Zsk <| Zxn <| Znx <| Zsr <| Zv (ya rfl) <| Znl <| Znx <| Zrt <| Zre (.t rfl .n) hS [] 1 ?_ rfl rfl rfl
    rotate_left
    refine Zu' rfl rfl (decide_eq_false h14) rfl <| Zu' rfl rfl (decide_eq_false h14) rfl <| Zu' rfl rfl (decide_eq_false h14) rfl <| Zu' rfl rfl (decide_eq_false h14) rfl <| Zu' rfl rfl (decide_eq_false h14) rfl <| Zu' rfl rfl (decide_eq_false h14) rfl <| Zu' rfl rfl (decide_eq_false h14) rfl <| Zu' rfl rfl (decide_eq_false h14) rfl <| Zu' rfl rfl (decide_eq_false h14) rfl <| Zg' rfl rfl (congrArg Bool.not hk) ?_
    refine Zv (ypf' rfl (decide_eq_false h14) rfl) <| Zv (ypf' rfl (congrArg Bool.not hk) rfl) <| Zv (ya rfl) <| Znl <| Znx <| Zcf rfl <| Zsr <| Zv (yf 0 rfl) <| Zv (yf 0 rfl) <| Zv (yd 0 rfl rfl rfl) ?_
    refine Zv (yf 0 rfl) <| Zv (yf 1 rfl) <| Zv (yd 0 rfl rfl rfl) <| Zv (ycv Tryz.underlying3 Tryz.underlying40 rfl (u32w rfl (by omega))) <| Zv (yrem rfl rfl (by omega) rfl) <| Zv (yne rfl rfl) <| Zv (ya rfl) <| Znl <| Znx <| Zif rfl (fun h26 => ?_) (fun h26 => ?_)
    refine Zsr <| Zv (ya rfl) <| Znl <| Znx <| Zrt <| Zr2 <| Zr1 <| Zre (.t rfl .n) hS [] 1 ?_ rfl rfl rfl
    rotate_left
    refine Zsk <| Zxn <| Znx <| Zsr <| Zv (ya rfl) <| Znl <| Znx <| Zrt <| Zre (.t rfl .n) hS [] 1 ?_ rfl rfl rfl
    rotate_left
    · exact congrArg (Value.int .i64) (chk_big hv.1 hk (by assumption) h3)
    · exact congrArg (Value.int .i64) ((chk_al ha.1 (chk_fit hv.1 hk fun _ => h3)).1 h26)
    · exact congrArg (Value.int .i64) ((chk_al ha.1 (chk_fit hv.1 hk fun _ => h3)).2 h26)
    · exact congrArg (Value.int .i64) ((chk_al ha.1 (chk_fit hv.1 hk fun h => absurd h (by assumption))).1 h26)
    · exact congrArg (Value.int .i64) ((chk_al ha.1 (chk_fit hv.1 hk fun h => absurd h (by assumption))).2 h26)
  | false =>
    rw [chk_no hk]
    refine Zen Tryz.func297 rfl rfl rfl fun e X Φ hS => Zsr <| Ze (ebxE rfl) fun b1 => Zw <| Zv (ya rfl) <| Znl <| Znx <| Zsq <| Zbl <| Zsr <| Zv (yf 0 rfl) ?_
    refine Zv (yf 1 rfl) <| Zv (yd 0 rfl rfl rfl) <| Zk (c292 ..) [] rfl rfl <| Zq <| Zv (ynot rfl) <| Zv (ym rfl) <| Zu' rfl rfl (congrArg Bool.not hk) rfl <| Zu' rfl rfl (congrArg Bool.not hk) rfl <| Zu' rfl rfl (congrArg Bool.not hk) rfl <| Zu' rfl rfl (congrArg Bool.not hk) rfl ?_
    refine Zu' rfl rfl (congrArg Bool.not hk) rfl <| Zuu rfl rfl <| Zuu rfl rfl <| Zuu rfl rfl <| Zuu rfl rfl <| Zuu rfl rfl <| Zuu rfl rfl <| Zuu rfl rfl <| Zuu rfl rfl <| Zuu rfl rfl ?_
    refine Zu' rfl rfl (congrArg Bool.not hk) rfl <| Zv (ypt' rfl (congrArg Bool.not hk) rfl) <| Zv (ya rfl) <| Znl <| Znx <| Zct rfl <| Zsr <| Zv (ya rfl) <| Znl <| Znx ?_
    refine Zrt <| Zr2 <| Zr1 <| Zre (.t rfl .n) hS [] 1 rfl rfl rfl rfl
theorem c148 (b : Nat) (l : List Sto) : Sp Tryz.prog 148 [.pointer (some ⟨b, 0, none⟩)] [.hp (bufC b l)] fun K => K (.returned (.int .i64 (l.length : Int))) [.hp (bufC b l)] := by
  refine Zen Tryz.func148 rfl rfl rfl fun e X Φ hS => Zoc 0 buf_op rfl <| fun X hX => Zsr <| Zv (ya rfl) <| Znl <| Znx <| Zsq <| Zsr <| Zv (ym rfl) <| Zv (ypeq rfl rfl rfl) <| Znl ?_
  refine Znx <| Zcf rfl <| Zsk <| Znx <| Zsr <| Zv (ym rfl) <| Zv (yn rfl) <| Zv (yf 13 rfl) <| Zv (yd 0 rfl rfl rfl) <| Zv (ya rfl) ?_
  refine Znl <| Znx <| Zrt ?_
  rw [hX.n]
  refine Zfx [0] (buf_fold hX) rfl <| Zre (.t rfl .n) hS [0] 0 rfl rfl rfl rfl
theorem c149 (b k : Nat) (Y : BufS) (h1 : Y.first < 4) (hk : k ≤ 4) : Sp Tryz.prog 149 [.pointer (some ⟨b, 0, none⟩), .int .i64 (k : Int)] [.blk b 245 (bufE.cells Y)] fun K => K (.returned (.pointer (some ⟨b, (Y.first + k) % 4 * 3, none⟩))) [.blk b 245 (bufE.cells Y)] := by
  refine Zen Tryz.func149 rfl rfl rfl fun e X Φ hS => Zsr <| Zv (ya rfl) <| Znl <| Znx <| Zsq <| Zhd [] rfl rfl <| Zht 0 rfl (ym rfl) <| Zht 1 rfl (ym rfl) <| Zht 2 rfl (yn rfl) ?_
  refine Zht 3 rfl (yf 12 rfl) <| Zht 4 rfl (yd 0 rfl rfl rfl) <| Zht 5 rfl (ym rfl) <| Zht 6 rfl (yadd rfl rfl (i64w rfl (by omega))) <| Zht 7 rfl (yrem rfl rfl (by decide) rfl) <| Zht 8 rfl (yn rfl) <| Zht 9 rfl (yf 0 rfl) ?_
  refine Zht 10 rfl (yaj (i := (Y.first + k) % 4) 3 Tryz.underlying243 rfl rfl (Nat.mod_lt _ (by decide)) (Nat.zero_add _)) <| Zht 11 rfl (ya rfl) <| Zhn (by kernel_rfl) <| Znx <| Zrt <| Zre (.t rfl .n) hS [0] 0 rfl rfl rfl rfl
def hdS (l : List Sto) : Sto := l.headD sto0
def hdB : List Sto → Bool
  | [] => false
  | _ :: _ => true
theorem c185 (b : Nat) (l : List Sto) : Sp Tryz.prog 185 [.pointer (some ⟨b, 0, none⟩)] [.hp (bufC b l)] fun K => K (.returned (.tuple #[.agg (stoE.arr (hdS l)), .bool (hdB l)])) [.hp (bufC b l)] := by
  cases l with
  | nil =>
    refine Zen Tryz.func185 rfl rfl rfl fun e X Φ hS => Zsr <| Ze (eal z51) fun b2 => Zw <| Zv (ya rfl) <| Znl <| Znx <| Zsq <| Zsr <| Zv (ym rfl) <| Zk (c148 ..) [1] rfl rfl ?_
    refine Zq <| Zv (yeq rfl rfl) <| Znl <| Znx <| Zct rfl <| Zsr <| Zv (yb l51 rfl) <| Ze (esw 1 (m := 3) rfl rfl rfl rfl rfl rfl rfl) <| Zw0 <| Zv (ya rfl) <| Znl ?_
    refine Znx <| Zrt <| Zr1 <| Zre (.wh 1 (m := 3) rfl rfl rfl (.t rfl .n)) hS [0] 1 rfl rfl rfl rfl
  | cons x r =>
    have hl : (x :: r).length = r.length + 1 := rfl
    refine Zen Tryz.func185 rfl rfl rfl fun e X Φ hS => Zsr <| Ze (eal z51) fun b2 => Zw <| Zv (ya rfl) <| Znl <| Znx <| Zsq <| Zsr <| Zv (ym rfl) <| Zk (c148 ..) [1] rfl rfl ?_
    refine Zq <| Zv (yeq rfl rfl) <| Znl <| Znx <| Zcf rfl <| Zsk <| Znx <| Zsr <| Zv (ym rfl) ?_
    refine Zol 0 buf_op rfl <| fun Y hY => ?_
    have h1 := hY.first
    refine Zk (c149 b 0 Y h1 (by decide)) [0] rfl rfl <| Zq <| Zv (yn rfl) <| Zv (yf 0 rfl) ?_
    have e1 : Y.get (Y.first % 4) = x := hY.el 0 (by omega)
    have e2 := buf_part (x := Y) (i := Y.first % 4) (Nat.mod_lt _ (by decide))
    rw [e1] at e2
    refine Zv (yda 0 (m := 3) rfl rfl e2 rfl) <| Ze (esw 1 (m := 3) rfl rfl rfl rfl rfl (Enc.len ..) (Enc.allL ..)) <| Zw0 <| Zv (ya rfl) <| Znl <| Znx <| Zrt ?_
    refine Zfx [0] (buf_fold hY) rfl <| Zre (.wh 1 (m := 3) rfl rfl (Enc.len ..) (.t rfl .n)) hS [0] 1 rfl rfl rfl rfl
theorem c189 (b : Nat) (l : List Sto) : Sp Tryz.prog 189 [.pointer (some ⟨b, 0, none⟩)] [.hp (bufC b l)] fun K => K (.returned (.tuple #[.agg (stoE.arr (hdS l)), .bool (hdB l)])) [.hp (bufC b l.tail)] := by
  cases l with
  | nil =>
    refine Zen Tryz.func189 rfl rfl rfl fun e X Φ hS => Zsr <| Ze (eal z51) fun b2 => Zw <| Zv (ya rfl) <| Znl <| Znx <| Zsr <| Zv (ym rfl) <| Zk (c185 ..) [1] rfl rfl <| Zq ?_
    refine Zv (ym rfl) <| Zv (yx rfl rfl) <| Zv (yx rfl rfl) <| Ze (eal z51) fun b4 => Zw <| Ze (esw 0 (m := 3) rfl rfl rfl rfl rfl (Enc.len ..) (Enc.allL ..)) <| Zw0 <| Zv (ya rfl) <| Znl <| Znx <| Zsq <| Zsr ?_
    refine Zv (ym rfl) <| Znl <| Znx <| Zcf rfl <| Zsk <| Znx <| Zsr <| Zv (ydw 0 (m := 3) rfl rfl (Enc.len ..)) <| Zv (ym rfl) <| Ze (esw 2 (m := 3) rfl rfl rfl rfl rfl (Enc.len ..) (Enc.allL ..)) <| Zw0 ?_
    refine Zv (ya rfl) <| Znl <| Znx <| Zrt <| Zre (.wh 2 (m := 3) rfl rfl (Enc.len ..) (.t rfl .n)) hS [1] 2 rfl rfl rfl rfl
  | cons x r =>
    have hl : (x :: r).length = r.length + 1 := rfl
    refine Zen Tryz.func189 rfl rfl rfl fun e X Φ hS => Zsr <| Ze (eal z51) fun b2 => Zw <| Zv (ya rfl) <| Znl <| Znx <| Zsr <| Zv (ym rfl) <| Zk (c185 ..) [1] rfl rfl <| Zq ?_
    refine Zv (ym rfl) <| Zv (yx rfl rfl) <| Zv (yx rfl rfl) <| Ze (eal z51) fun b4 => Zw <| Ze (esw 0 (m := 3) rfl rfl rfl rfl rfl (Enc.len ..) (Enc.allL ..)) <| Zw0 <| Zv (ya rfl) <| Znl <| Znx <| Zsq <| Zsr ?_
    refine Zv (ym rfl) <| Znl <| Znx <| Zct rfl <| Zsr <| Zv (ym rfl) ?_
    refine Zol 1 buf_op rfl <| fun Y hY => ?_
    have h1 := hY.first
    refine Zk (c149 b 0 Y h1 (by decide)) [0] rfl rfl <| Zq <| Zv (yb l212 rfl) <| Zv (yn rfl) ?_
    have e2 := buf_put (x := Y) (i := Y.first % 4) (s := sto0) (Nat.mod_lt _ (by decide))
    have hn := hY.n
    have h4 := hY.most
    have hf : (Y.set (Y.first % 4) sto0).first = Y.first := set_first
    have hm : (Y.set (Y.first % 4) sto0).n = Y.n := set_n
    refine Ze (esc (m := 3) 0 rfl rfl rfl e2 rfl rfl (by show _ ≤ 14; omega) rfl) <| Zw0 <| Znl <| Znx <| Zsr <| Zv (ym rfl) <| Zv (ym rfl) <| Zv (yn rfl) <| Zv (yf 12 rfl) <| Zv (yd 0 rfl rfl rfl) <| Zv (yadd rfl rfl (i64w rfl (by omega))) ?_
    refine Zv (yrem rfl rfl (by decide) rfl) <| Zv (yn rfl) <| Zv (yf 12 rfl) <| Ze (es 0 rfl rfl rfl rfl rfl) <| Zw0 <| Znl <| Znx <| Zrg <| Zv (ym rfl) <| Zv (yn rfl) <| Zv (yf 13 rfl) ?_
    refine Zv (yd 0 rfl rfl rfl) <| Zv (ysub rfl rfl (i64w rfl (by omega))) <| Zv (yn rfl) <| Zv (yf 13 rfl) <| Ze (es 0 rfl rfl rfl rfl rfl) <| Zw0 <| Znl <| Znx <| Zsr <| Zv (ydw 1 (m := 3) rfl rfl (Enc.len ..)) <| Zv (ym rfl) ?_
    refine Ze (esw 2 (m := 3) rfl rfl rfl rfl rfl (Enc.len ..) (Enc.allL ..)) <| Zw0 <| Zv (ya rfl) <| Znl <| Znx <| Zrt ?_
    have e3 : ((Y.set (Y.first % 4) sto0).n : Int) - 1 = ((Y.n - 1 : Nat) : Int) := by omega
    have e4 : (((Y.set (Y.first % 4) sto0).first : Int) + 1).tmod 4 = (((Y.first + 1) % 4 : Nat) : Int) := by rw [hf]; rfl
    rw [e3, e4]
    refine Zfx [0] (buf_foldc (b := b) (hY.pop (by omega)) rfl) rfl <| Zre (.wh 2 (m := 3) rfl rfl (Enc.len ..) (.t rfl .n)) hS [0] 2 rfl rfl rfl rfl
theorem c121 : Sp Tryz.prog 121 [] [] fun K => ∀ b, K (.returned (.pointer (some ⟨b, 0, none⟩))) [.hp (bufC b [])] := by
  refine Zen Tryz.func121 rfl rfl rfl fun e X Φ hS => Zsr <| Zv (ya rfl) <| Znl <| Znx <| Zsr <| Zv (yb l245 rfl) <| Ze (ebx rfl) fun b2 => Zw <| Zv (ya rfl) <| Znl ?_
  refine Znx <| Zrt ?_
  refine Zfx [0] (buf_fold (b := b2) BufOf.nil) rfl ?_
  refine Zre (.t rfl .n) (hS b2) [0] 0 rfl rfl rfl rfl
theorem c82 (b : Nat) (l : List Sto) : Sp Tryz.prog 82 [.pointer (some ⟨b, 0, none⟩)] [.hp (bufC b l)] fun K => ∀ b', K (.returned (.pointer (some ⟨b', 0, none⟩))) [.hp (bufC b' l), .hp (bufC b l)] := by
  refine Zen Tryz.func82 rfl rfl rfl fun e X Φ hS => Zoc 0 buf_op rfl <| fun Y hY => Zsr <| Zv (ya rfl) <| Znl <| Znx <| Zsq <| Zsr <| Zv (ym rfl) <| Zv (ypeq rfl rfl rfl) <| Znl ?_
  refine Znx <| Zcf rfl <| Zsk <| Znx <| Zsr <| Zv (ym rfl) <| Zv (yn rfl) <| Zv (ydw 0 (m := 14) rfl rfl (Enc.len ..)) <| Ze (eal z245) fun b3 => Zw <| Ze (esw 0 (m := 14) rfl rfl rfl rfl rfl (Enc.len ..) (Enc.allL ..)) <| Zw0 ?_
  refine Znl <| Znx <| Zsr <| Zv (ya rfl) <| Znl <| Znx <| Zrt ?_
  refine Zfx [1] (buf_fold (b := b) hY) rfl ?_
  refine Zfx [1] (buf_fold (b := b3) hY) rfl ?_
  refine Zre (.t rfl .n) (hS b3) [0,0] 0 rfl rfl rfl rfl
def pushE (l : List Sto) (s : Sto) : Int := if chkS s ≠ 0 then chkS s else if 4 ≤ l.length then 240 else 0
def pushL (l : List Sto) (s : Sto) : List Sto := if pushE l s = 0 then l ++ [s] else l
theorem c249 (b : Nat) (l : List Sto) (s : Sto) (ok : s.Ok) : Sp Tryz.prog 249 [.pointer (some ⟨b, 0, none⟩), .agg (stoE.arr s)] [.hp (bufC b l)] fun K => K (.returned (.int .i64 (pushE l s))) [.hp (bufC b (pushL l s))] := by
  refine Zen Tryz.func249 rfl rfl rfl fun e X Φ hS => Zoc 0 buf_op rfl <| fun Y hY => Zsr <| Ze (ebxE rfl) fun b3 => Zw <| Zv (ya rfl) <| Znl <| Znx <| Zsq <| Zsr <| Zv (ym rfl) <| Zv (ypeq rfl rfl rfl) ?_
  refine Znl <| Znx <| Zcf rfl <| Zsk <| Znx <| Zsr <| Zv (ydw 0 (m := 3) rfl rfl (Enc.len ..)) <| Zv (yb l212 rfl) <| Ze (eal z212) fun b5 => Zw <| Ze (esw 0 (m := 3) rfl rfl rfl rfl rfl rfl rfl) <| Zw0 ?_
  refine Znl <| Znx <| Zsq <| Zsr <| Zv (ydw 0 (m := 3) rfl rfl rfl) ?_
  refine Zk (c297 s ok) [] rfl rfl <| Zq <| Zv (ya rfl) <| Znl <| Znx <| Zsr <| Zv (ym rfl) <| Zv (yne rfl rfl) <| Znl <| Znx ?_
  refine Zif rfl (fun h14 => ?_) (fun h14 => ?_)
  refine Zsr <| Zv (ym rfl) <| Zv (ya rfl) <| Znl <| Znx <| Zrt <| Zr1 ?_
  rotate_left
  refine Zsk <| Znx <| Zsq <| Zsr <| Zv (ym rfl) <| Zv (yn rfl) <| Zv (yf 13 rfl) <| Zv (yd 2 rfl rfl rfl) <| Zv (yeq rfl rfl) <| Znl ?_
  refine Znx <| Zif rfl (fun h20 => ?_) (fun h20 => ?_)
  refine Zsr <| Zv (ya rfl) <| Znl <| Znx <| Zrt <| Zr1 ?_
  rotate_left
  refine Zsk <| Znx <| Zsq ?_
  rotate_left
  · have e1 : pushE l s = chkS s := if_pos h14
    have e2 : pushL l s = l := if_neg (by rw [e1]; exact h14)
    rw [e1, e2] at hS
    refine Zfx [2] (buf_fold hY) rfl <| Zre (.t rfl .n) hS [0] 2 rfl rfl rfl rfl
  · have hn := hY.n
    have e1 : pushE l s = 240 := (if_neg h14).trans (if_pos (by omega))
    have e2 : pushL l s = l := if_neg (by rw [e1]; decide)
    rw [e1, e2] at hS
    refine Zfx [2] (buf_fold hY) rfl <| Zre (.t rfl .n) hS [0] 2 rfl rfl rfl rfl
  · have hn := hY.n
    have h4 := hY.most
    have hf := hY.first
    have e1 : pushE l s = 0 := (if_neg h14).trans (if_neg (by omega))
    have e2 : pushL l s = l ++ [s] := if_pos e1
    rw [e1, e2] at hS
    have hs : s.In := ⟨ok, by simpa using h14⟩
    have e3 := buf_put (x := Y) (i := (Y.first + Y.n) % 4) (s := s) (Nat.mod_lt _ (by decide))
    have hg : (Y.set ((Y.first + Y.n) % 4) s).n = Y.n := set_n
    have hi : (Y.set ((Y.first + Y.n) % 4) s).first = Y.first := set_first
    refine Zhf 8 [2] rfl rfl <| Zht 0 rfl (ym rfl) <| Zht 1 rfl (ym rfl) <| Zht 2 rfl (yn rfl) <| Zht 3 rfl (yf 13 rfl) <| Zht 6 rfl (ydw 0 (m := 3) rfl rfl rfl) <| Zh1 4 (by kernel_rfl) <| Zov rfl (yd 0 rfl rfl rfl) ?_
    refine Zh1 5 (by kernel_rfl) <| Zok (c149 b Y.n Y hf (by omega)) [0] rfl rfl rfl <| Zqh 1 rfl <| Zht 7 rfl (yn rfl) <| Zhn (by kernel_rfl) <| Ztl rfl ?_
    refine Zte (esc (m := 3) 0 rfl rfl rfl e3 rfl rfl (by show _ ≤ 14; omega) rfl) <| Ztw <| Ztn <| Znx <| Zsr <| Zv (ym rfl) <| Zv (yn rfl) <| Zv (yf 13 rfl) <| Zv (yd 0 rfl rfl rfl) <| Zv (yadd rfl rfl (i64w rfl (by omega))) <| Zv (yn rfl) ?_
    refine Zv (yf 13 rfl) <| Ze (es 0 rfl rfl rfl rfl rfl) <| Zw0 <| Znl <| Znx <| Zsr <| Zv (ya rfl) <| Znl <| Znx <| Zrt ?_
    rw [hi, hg]
    refine Zfx [0] (buf_foldc (b := b) (hY.push s hs (by omega)) rfl) rfl <| Zre (.t rfl .n) hS [0] 2 rfl rfl rfl rfl
end Go.Proofs.YtpfijldkkfiooaaGreatDoor
namespace Go.Proofs.YtpfijldkkfiooaaGreatDoor
open Go
set_option maxRecDepth 4000
theorem take_snc {α : Type} {xs : List α} {j : Nat} {x : α} (h : xs[j]? = some x) : xs.take j ++ [x] = xs.take (j + 1) := by
  rw [List.take_add_one, h]
  rfl
theorem rev_at {α : Type} {l : List α} {j : Nat} (d : α) (h : j < l.length) : l.reverse[j]? = some (l.getD (l.length - 1 - j) d) := by
  rw [List.getElem?_reverse h, List.getD_eq_getElem?_getD, List.getElem?_eq_getElem (by omega)]
  rfl
theorem buf_le {b : Nat} {l : List Sto} : Op_ (bufC b l) fun K => l.length ≤ 4 → (∀ s ∈ l, s.In) → K [.hp (bufC b l)] := .mk fun G k h hh => by
  obtain ⟨X, h1, h2⟩ := hh
  exact ⟨_, k h1.most h1.al, sep_hp1 ⟨X, h1, h2⟩⟩
theorem q147 (b b1 : Nat) (l : List Sto) : Sq Tryz.prog 147 [.pointer (some ⟨b1, 0, none⟩)] [.hp (bufC b l), .blk b1 136 [.pointer (some ⟨b, 0, none⟩)]] (fun _ => [.hp (bufC b l), .blk b1 136 [.pointer (some ⟨b, 0, none⟩)]]) (fun s => [.agg (wE.arr s)]) l.reverse := by
  refine ⟨fun y J Jx hYd => ?_⟩
  refine Zen Tryz.func147 rfl rfl rfl fun e X Φ hS => Zoc 1 buf_le rfl <| fun h4 _ => Zsr <| Zv (yd 2 rfl rfl rfl) <| Zk (c148 ..) [0] rfl rfl <| Zq <| Zv (ysub rfl rfl (i64w rfl (by omega))) <| Zv (ya rfl) <| Znl <| Znx <| Zbl ?_
  refine Zlq (ι := { i : Nat // i ≤ l.length }) (fun i => [(3, .int .i64 ((l.length : Int) - 1 - (i.1 : Int))), (0, .func (.yield y) #[] #[]), (1, .pointer (some ⟨b1, 0, none⟩))]) (fun i => [.hp (J (l.reverse.take i.1)), .hp (bufC b l), .blk b1 136 [.pointer (some ⟨b, 0, none⟩)]]) (fun i => l.length - i.1) ⟨0, by omega⟩ ?_ [1, 0, 0] rfl fun i => ?_
  rotate_left
  refine Zsq <| Zsr <| Zv (ym rfl) <| Zv (yge rfl rfl) <| Znl <| Znx <| Zif rfl (fun h8 => ?_) (fun h8 => ?_)
  refine Zsk <| Znx <| Zsq <| Zbl <| Zsr <| Zv (ym rfl) <| Zv (yd 2 rfl rfl rfl) <| Zv (ym rfl) ?_
  rotate_left
  refine Zex <| Zxt <| Zxt <| Zxx <| Zee ?_
  rotate_left
  · refine ⟨?_, rfl, rfl, trivial⟩
    show some _ = some _
    simp
  · have hlt : i.1 < l.length := by omega
    have e1 : (l.length : Int) - 1 - (i.1 : Int) = ((l.length - 1 - i.1 : Nat) : Int) := by omega
    refine Zol 1 buf_op rfl <| fun Y hY => ?_
    have hx : l.reverse.take i.1 ++ [l.getD (l.length - 1 - i.1) sto0] <+: l.reverse := by rw [take_snc (rev_at sto0 hlt)]; exact List.take_prefix _ _
    have e2 := buf_part (x := Y) (i := (Y.first + (l.length - 1 - i.1)) % 4) (Nat.mod_lt _ (by decide))
    rw [hY.el _ (by omega)] at e2
    rw [e1]
    refine Zk (c149 b (l.length - 1 - i.1) Y hY.first (by omega)) [0] rfl rfl <| Zq <| Zv (yn rfl) ?_
    refine Zv (yda 0 (m := 3) rfl rfl e2 rfl) ?_
    refine Zyd (hYd _ _ hx) 1 rfl rfl rfl ?_ ?_
    refine Zv (ynot rfl) <| Znl <| Znx <| Zcf rfl <| Zsk <| Zxn <| Znx <| Zrg <| Zv (ym rfl) <| Zv (ysub rfl rfl (i64w rfl (by omega))) ?_
    refine Zv (ya rfl) <| Znl ?_
    rotate_left
    refine Zv (ynot rfl) <| Znl <| Znx <| Zct rfl <| Zrt <| Zr2 <| Zr1 <| Zr1 <| Zr2 ?_
    rotate_left
    · refine Zfx [1] (buf_fold hY) rfl ?_
      rw [take_snc (rev_at sto0 hlt), show ((l.length - 1 - i.1 : Nat) : Int) - 1 = (l.length : Int) - 1 - ((i.1 + 1 : Nat) : Int) by omega]
      refine Zlr ⟨i.1 + 1, by omega⟩ (by show l.length - (i.1 + 1) < l.length - i.1; omega) ⟨rfl, rfl, rfl, trivial⟩ [1, 0, 0] 0 rfl rfl
    · refine Zfx [1] (buf_fold hY) rfl ?_
      refine Zre .n (hS.2 _ hx) [1,0,0] 0 rfl rfl rfl rfl
  · have hi := i.2
    rw [List.take_of_length_le (show l.reverse.length ≤ i.1 by simp; omega)]
    refine Zre .n hS.1 [0,0,0] 0 rfl rfl rfl rfl
theorem c98 (b : Nat) : Sp Tryz.prog 98 [.pointer (some ⟨b, 0, none⟩)] [] fun K => ∀ b1, K (.returned (.func (.func 147) #[] #[.pointer (some ⟨b1, 0, none⟩)])) [.blk b1 136 [.pointer (some ⟨b, 0, none⟩)]] := by
  refine Zen Tryz.func98 rfl rfl rfl fun e X Φ hS => Zsr <| Ze (ebx rfl) fun b1 => Zw <| Zv (ya rfl) <| Znl <| Znx <| Zsr <| Zv (yfn rfl rfl) <| Zv (ya rfl) <| Znl ?_
  refine Znx <| Zrt ?_
  refine Zre (.t rfl .n) (hS b1) [0] 0 rfl rfl rfl rfl
def collC {α : Type} [DecidableEq α] (E : Enc Tryz.prog α) (bo ts : Nat) (pre : List α) : HP := fun h => ∃ A cap, Sep [.blk bo ts [.slice A pre.length cap], .hp (own E A cap pre)] h
theorem coll_op {α : Type} [DecidableEq α] {E : Enc Tryz.prog α} {bo ts : Nat} {pre : List α} : Op_ (collC E bo ts pre) fun K => ∀ A cap, K [.blk bo ts [.slice A pre.length cap], .hp (own E A cap pre)] := .mk fun G k h hh => by
  obtain ⟨A, cap, hs⟩ := hh
  exact ⟨_, k A cap, hs⟩
theorem coll_fold {α : Type} [DecidableEq α] {E : Enc Tryz.prog α} {bo ts cap n : Nat} {A : Option Addr} {pre : List α} (hn : n = pre.length) : ∀ h, Sep [.blk bo ts [.slice A n cap], .hp (own E A cap pre)] h → collC E bo ts pre h := fun h hs => ⟨A, cap, hn ▸ hs⟩
theorem coll_nil {α : Type} [DecidableEq α] {E : Enc Tryz.prog α} {bo ts : Nat} : ∀ h, Sep [.blk bo ts [.slice none 0 0]] h → collC E bo ts [] h := fun h hs => ⟨none, 0, hs.mapTl fun _ hs => sep_nil hs⟩
theorem elSto : ElemI stoE 73 24 := ⟨Tryz.underlying73, by
  obtain ⟨i0, hi, hz0, hz1, hz2⟩ := info_parts (show (Tryz.prog.info? 51).map (fun i => (i.zero, i.size, i.bytes)) = some (some (.agg (stoE.arr sto0)), 3, 24) by kernel_rfl)
  exact ⟨i0, _, hi, hz0, hz1, hz2, by rw [show (Value.agg (stoE.arr sto0)).cells = stoE.arr sto0 from rfl, stoE.size]⟩⟩
def RevAt (l ll : List Sto) (i : Nat) : Prop := ∀ k, k < l.length → ll.getD k sto0 = if k < i ∨ l.length - i ≤ k then l.getD (l.length - 1 - k) sto0 else l.getD k sto0
theorem RevAt.zero {l : List Sto} : RevAt l l 0 := fun k hk => by rw [if_neg (by omega)]
theorem getD_set {l : List Sto} {i k : Nat} {x : Sto} (hi : i < l.length) : (l.set i x).getD k sto0 = if i = k then x else l.getD k sto0 := by
  simp only [List.getD, List.getElem?_set]
  split
  · rename_i h; subst h; simp [hi]
  · rfl
theorem rev_step {l ll : List Sto} {i : Nat} (h1 : i < l.length) (h2 : i < l.length - 1 - i) (hl : ll.length = l.length) (h : RevAt l ll i) : RevAt l ((ll.set i (ll.getD (l.length - 1 - i) sto0)).set (l.length - 1 - i) (ll.getD i sto0)) (i + 1) := by
  intro k hk
  rw [getD_set (by rw [List.length_set]; omega), getD_set (by omega)]
  have hi := h i h1
  have hj := h (l.length - 1 - i) (by omega)
  rw [if_neg (by omega)] at hi
  rw [if_neg (by omega)] at hj
  by_cases e1 : l.length - 1 - i = k
  · rw [if_pos e1, if_pos (by omega), hi, ← e1, show l.length - 1 - (l.length - 1 - i) = i by omega]
  · rw [if_neg e1]
    by_cases e2 : i = k
    · rw [if_pos e2, if_pos (by omega), hj, e2]
    · rw [if_neg e2, h k hk]
      by_cases e3 : k < i ∨ l.length - i ≤ k
      · rw [if_pos e3, if_pos (by omega)]
      · rw [if_neg e3, if_neg (by omega)]
theorem RevAt.done {l ll : List Sto} {i : Nat} (h : RevAt l ll i) (hl : ll.length = l.length) (hi : l.length ≤ 2 * i + 1) : ll = l.reverse := by
  refine List.ext_getElem (by simpa using hl) fun k h1 h2 => ?_
  have hk : k < l.length := by omega
  have := h k hk
  rw [List.getElem_reverse]
  have e1 : ll.getD k sto0 = ll[k] := by simp [List.getD, h1]
  have e2 : l.getD (l.length - 1 - k) sto0 = l[l.length - 1 - k] := by simp [List.getD, show l.length - 1 - k < l.length by omega]
  rw [← e1, this, ← e2]
  by_cases e3 : k < i ∨ l.length - i ≤ k
  · rw [if_pos e3]
  · rw [if_neg e3, show l.length - 1 - k = k by omega]
theorem c99 (A : Option Addr) (cap : Nat) (l : List Sto) (hl : l.length ≤ 1048576) : Sp Tryz.prog 99 [.slice A l.length cap] [.hp (own stoE A cap l)] fun K => K (.returned (.tuple #[])) [.hp (own stoE A cap l.reverse)] := by
  refine Zen Tryz.func99 rfl rfl rfl fun e X Φ hS => Zsr <| Zv (ym rfl) <| Zv (sl_of ⟨_, Tryz.underlying73⟩ rfl) <| Zv (ysub rfl rfl (i64w rfl (by omega))) <| Zv (ya rfl) <| Zv (ya rfl) <| Znl <| Znx <| Zbl ?_
  refine Zlq (ι := { p : Nat × List Sto // p.1 ≤ l.length ∧ p.2.length = l.length ∧ RevAt l p.2 p.1 }) (fun p => [(2, .int .i64 (p.1.1 : Int)), (3, .int .i64 ((l.length : Int) - 1 - (p.1.1 : Int))), (0, .slice A l.length cap)]) (fun p => [.hp (own stoE A cap p.1.2)]) (fun p => l.length - p.1.1) ⟨(0, l), by simp, rfl, RevAt.zero⟩ ?_ [0] rfl fun p => ?_
  rotate_left
  refine Zsq <| Zsr <| Zv (ym rfl) <| Zv (ym rfl) <| Zv (ylt rfl rfl) <| Znl <| Znx <| Zif rfl (fun h9 => ?_) (fun h9 => ?_)
  refine Zsk <| Znx <| Zsq <| Zbl ?_
  rotate_left
  refine Zex <| Zxt <| Zxt <| Zxx <| Zee ?_
  rotate_left
  · refine ⟨rfl, ?_, rfl, trivial⟩
    show some _ = some _
    simp
  · obtain ⟨⟨i, ll⟩, h1, h2, h3⟩ := p
    have hi : (i : Int) < (l.length : Int) - 1 - i := h9
    have h2' : ll.length = l.length := h2
    have e1 : (l.length : Int) - 1 - (i : Int) = ((l.length - 1 - i : Nat) : Int) := by omega
    have hgi := gE (l := ll) (k := i) (by omega)
    have hgj := gE (l := ll) (k := l.length - 1 - i) (by omega)
    have ei : ll.getD i sto0 = ll[i] := by rw [List.getD_eq_getElem?_getD, hgi]; rfl
    have ej : ll.getD (l.length - 1 - i) sto0 = ll[l.length - 1 - i] := by rw [List.getD_eq_getElem?_getD, hgj]; rfl
    have h4 := rev_step (i := i) (by omega) (by omega) h2' h3
    rw [ei, ej] at h4
    rw [e1]
    refine Zoc 0 (own_some (by show 0 < ll.length; omega)) rfl <| fun g o hA => ?_
    subst hA
    refine Zhd [0] rfl rfl <| Zht 0 rfl (ym rfl) <| Zht 1 rfl (ym rfl) <| Zht 2 rfl (ym rfl) <| Zht 3 rfl (ym rfl) <| Zht 4 rfl (ym rfl) <| Zht 5 rfl (ym rfl) <| Zht 8 rfl (ym rfl) <| Zht 9 rfl (ym rfl) ?_
    refine Zht 6 rfl (yeb (s := 3) (j := l.length - 1 - i) (o + (l.length - 1 - i) * 3) Tryz.underlying73 rfl rfl (by omega) rfl) ?_
    refine Zht 10 rfl (yeb (s := 3) (j := i) (o + i * 3) Tryz.underlying73 rfl rfl (by omega) rfl) ?_
    refine Zh2 7 11 (by kernel_rfl) (Zov rfl (yel 0 own.rd rfl hgj rfl rfl rfl) ?_) (Zov rfl (yel 0 own.rd rfl hgi rfl rfl rfl) ?_)
    rotate_left
    rotate_left
    · refine Zh1 11 (by kernel_rfl) <| Zov rfl (yel 0 own.rd rfl hgi rfl rfl rfl) ?_
      refine Zht 12 rfl (yeb (s := 3) (j := i) (o + i * 3) Tryz.underlying73 rfl rfl (by omega) rfl) ?_
      refine Zh1 13 (by kernel_rfl) <| Zoe rfl (ese 0 i rfl rfl rfl (by show i < ll.length; omega) rfl rfl (by kernel_rfl)) <| Zwh0 1 rfl ?_
      refine Zht 14 rfl (yeb (s := 3) (j := l.length - 1 - i) (o + (l.length - 1 - i) * 3) Tryz.underlying73 rfl rfl (by omega) rfl) ?_
      refine Zh1 15 (by kernel_rfl) <| Zoe rfl (ese 0 (l.length - 1 - i) rfl rfl rfl (by show _ < (ll.set i _).length; rw [List.length_set]; omega) rfl rfl (by kernel_rfl)) <| Zwh0 1 rfl <| Zhn (by kernel_rfl) <| Zxn <| Znx <| Zrg <| Zv (ym rfl) <| Zv (yadd rfl rfl (i64w rfl (by omega))) <| Zv (ym rfl) <| Zv (ysub rfl rfl (i64w rfl (by omega))) <| Zv (ya rfl) ?_
      refine Zv (ya rfl) <| Znl ?_
      rw [show ((l.length - 1 - i : Nat) : Int) - 1 = (l.length : Int) - 1 - ((i + 1 : Nat) : Int) by omega]
      refine Zlr ⟨(i + 1, (ll.set i ll[l.length - 1 - i]).set (l.length - 1 - i) ll[i]), by show i + 1 ≤ l.length; omega, by simp [h2'], h4⟩ (by show l.length - (i + 1) < l.length - i; omega) ⟨rfl, rfl, rfl, trivial⟩ [0] 0 rfl rfl
    · refine Zh1 7 (by kernel_rfl) <| Zov rfl (yel 0 own.rd rfl hgj rfl rfl rfl) ?_
      refine Zht 12 rfl (yeb (s := 3) (j := i) (o + i * 3) Tryz.underlying73 rfl rfl (by omega) rfl) ?_
      refine Zh1 13 (by kernel_rfl) <| Zoe rfl (ese 0 i rfl rfl rfl (by show i < ll.length; omega) rfl rfl (by kernel_rfl)) <| Zwh0 1 rfl ?_
      refine Zht 14 rfl (yeb (s := 3) (j := l.length - 1 - i) (o + (l.length - 1 - i) * 3) Tryz.underlying73 rfl rfl (by omega) rfl) ?_
      refine Zh1 15 (by kernel_rfl) <| Zoe rfl (ese 0 (l.length - 1 - i) rfl rfl rfl (by show _ < (ll.set i _).length; rw [List.length_set]; omega) rfl rfl (by kernel_rfl)) <| Zwh0 1 rfl <| Zhn (by kernel_rfl) <| Zxn <| Znx <| Zrg <| Zv (ym rfl) <| Zv (yadd rfl rfl (i64w rfl (by omega))) <| Zv (ym rfl) <| Zv (ysub rfl rfl (i64w rfl (by omega))) <| Zv (ya rfl) ?_
      refine Zv (ya rfl) <| Znl ?_
      rw [show ((l.length - 1 - i : Nat) : Int) - 1 = (l.length : Int) - 1 - ((i + 1 : Nat) : Int) by omega]
      refine Zlr ⟨(i + 1, (ll.set i ll[l.length - 1 - i]).set (l.length - 1 - i) ll[i]), by show i + 1 ≤ l.length; omega, by simp [h2'], h4⟩ (by show l.length - (i + 1) < l.length - i; omega) ⟨rfl, rfl, rfl, trivial⟩ [0] 0 rfl rfl
  · have h5 := p.2.2.2.done p.2.2.1 (by omega)
    rw [h5]
    refine Zre .n hS [0] 0 rfl rfl rfl rfl
theorem c54 (b : Nat) (l : List Sto) : Sp Tryz.prog 54 [.pointer (some ⟨b, 0, none⟩)] [.hp (bufC b l)] fun K => ∀ A cap, K (.returned (.slice A l.length cap)) [.hp (own stoE A cap l), .hp (bufC b l)] := by
  refine ZenM Tryz.func54 rfl rfl rfl fun e X Φ hS => Zoc 0 buf_le rfl <| fun h4 _ => Zsr <| Zv (ya rfl) <| Znl <| Znx <| Zsr <| Ze (eal z73) fun b3 => Zw <| Znl <| Znx <| Zsq ?_
  refine Zsr <| Zv (ym rfl) <| Zk (c98 ..) [] rfl rfl <| fun b1 => Zq <| Znl <| Znx <| Zbl ?_
  refine Zfc [1] (coll_nil (E := stoE) (bo := b3) (ts := 73)) rfl ?_
  refine Zrf (q147 b b1 l) (fun pre => [.hp (collC stoE b3 73 pre)]) (fun _ => True) (fun _ => []) (fun _ => False) (fun _ _ => []) (fun _ _ => False) [2,1,0] rfl rfl trivial (fun e' y pre x F hx _ => ?_) (fun D _ => ?_) (fun _ _ _ h => h.elim) (fun _ _ _ _ h => h.elim) (fun _ => rfl) (by decide)
  refine Zrg <| Ze (eal z212) fun b4 => Zw <| Ze (esw 0 (m := 3) rfl rfl rfl rfl rfl (Enc.len ..) (Enc.allL ..)) <| Zw0 <| Znl <| Zak 2 rfl fun F' => Zbl <| Zrg ?_
  rotate_left
  refine Zxn <| Znx <| Zsr ?_
  rotate_left
  · refine Zol 1 coll_op rfl <| fun A cap => Zv (yd 0 rfl rfl rfl) <| Zv (yf 0 rfl) <| Zv (ydw 2 (m := 3) rfl rfl (Enc.len ..)) ?_
    have hlen := prefix_len hx
    simp only [List.length_reverse] at hlen
    have hm : pre.length + [x].length ≤ maxLen := ml_le (by simp; omega)
    refine Ze (eb1 (E := stoE) (p := x) elSto (by decide) rfl) <| fun B => Zw ?_
    refine Ze (eap' 2 0 elSto rfl rfl rfl own.rd rfl rfl rfl (fun _ _ => rfl) (by simp; omega) hm) <| fun A' cap' => Zw <| Ze (es 1 rfl rfl rfl rfl rfl) <| Zw0 <| Znl <| Zxn ?_
    refine Zfx [1,1] (coll_fold (bo := b3) (ts := 73) (pre := pre ++ [x]) rfl) rfl <| Zrn trivial [0] 2 rfl rfl
  · refine Zol 1 coll_op rfl <| fun A cap => Zv (yd 0 rfl rfl rfl) ?_
    refine Zk (c99 A cap l.reverse (by simp; omega)) [1] rfl rfl <| Zq <| Znl <| Znx <| Zsr <| Zv (yd 1 rfl rfl rfl) <| Zv (ya rfl) <| Znl <| Znx <| Zrt ?_
    refine Zmk 2 rfl ?_
    rw [List.length_reverse, List.reverse_reverse]
    refine Zre (.t rfl .n) (hS A cap) [0,1] 2 rfl rfl rfl rfl
end Go.Proofs.YtpfijldkkfiooaaGreatDoor
namespace Go.Proofs.YtpfijldkkfiooaaGreatDoor
open Go
set_option maxRecDepth 4000
def mskF (w n : Int) : Int := w32 (BitVec.ofInt 32 n &&& BitVec.ofInt 32 (w32 (w32 (1 * 2 ^ min (8 * w).toNat 32) - 1))).toNat
def fwd1 (a w : Int) (s : Sto) : Option (Int × Int) :=
  if a + w ≤ s.addr ∨ s.addr + s.width ≤ a then none
  else if a < s.addr ∨ s.addr + s.width < a + w then some (0, 2)
  else some (if w < 4 then mskF w (s.value.fdiv (2 ^ min (8 * (a - s.addr)).toNat 32)) else s.value.fdiv (2 ^ min (8 * (a - s.addr)).toNat 32), 1)
def fwdL (a w : Int) : List Sto → Int × Int
  | [] => (0, 0)
  | s :: r => match fwd1 a w s with
    | none => fwdL a w r
    | some p => p
def fwd (l : List Sto) (a w : Int) : Int × Int := if wOk w = true ∧ a % w = 0 then fwdL a w l.reverse else (0, 0)
def FStop (a w : Int) (pre : List Sto) (r : Int × Int) : Prop := ∃ p x, pre = p ++ [x] ∧ (∀ y ∈ p, fwd1 a w y = none) ∧ fwd1 a w x = some r
section
variable {a w : Int} {pre xs : List Sto} {x : Sto} {s : Sto} {r : Int × Int}
theorem fwdL_skip : ∀ (p q : List Sto), (∀ y ∈ p, fwd1 a w y = none) → fwdL a w (p ++ q) = fwdL a w q
  | [], _, _ => rfl
  | y :: p, q, h => by
    show (match fwd1 a w y with | none => fwdL a w (p ++ q) | some p => p) = _
    rw [h y (by simp)]
    exact fwdL_skip p q fun z hz => h z (by simp [hz])
theorem FStop.eq (h : FStop a w pre r) (hp : pre <+: xs) : fwdL a w xs = r := by
  obtain ⟨p, x, rfl, h1, h2⟩ := h
  obtain ⟨q, rfl⟩ := hp
  rw [List.append_assoc, fwdL_skip p _ h1]
  show (match fwd1 a w x with | none => _ | some p => p) = r
  rw [h2]
theorem fdone (h : ∀ y ∈ xs, fwd1 a w y = none) : fwdL a w xs = (0, 0) := by
  have := fwdL_skip (a := a) (w := w) xs [] h
  rw [List.append_nil] at this
  exact this
theorem fno_step (h : ∀ y ∈ pre, fwd1 a w y = none) (hx : fwd1 a w x = none) : ∀ y ∈ pre ++ [x], fwd1 a w y = none := by
  intro y hy
  rw [List.mem_append, List.mem_singleton] at hy
  rcases hy with hy | rfl
  · exact h y hy
  · exact hx
theorem fwd1_none (h : a + w ≤ s.addr ∨ s.addr + s.width ≤ a) : fwd1 a w s = none := by unfold fwd1; rw [if_pos h]
theorem fwd1_part (h1 : ¬ (a + w ≤ s.addr ∨ s.addr + s.width ≤ a)) (h2 : a < s.addr ∨ s.addr + s.width < a + w) : fwd1 a w s = some (0, 2) := by unfold fwd1; rw [if_neg h1, if_pos h2]
end
theorem Sto.In.w {s : Sto} (h : s.In) : wOk s.width = true := by
  have := h.spec.1
  simp [wOk]
  omega
theorem mem_pre {α : Type} {l pre : List α} {x : α} (h : pre ++ [x] <+: l.reverse) : x ∈ l := by
  obtain ⟨q, hq⟩ := h
  have : x ∈ l.reverse := by rw [← hq]; simp
  simpa using this
def rcC (b6 b7 : Nat) (r : Int × Int) : HP := Sep [.blk b6 40 [.int .u32 r.1], .blk b7 374 [.int .i64 r.2]]
theorem rc_op {b6 b7 : Nat} {r : Int × Int} : Op_ (rcC b6 b7 r) fun K => K [.blk b6 40 [.int .u32 r.1], .blk b7 374 [.int .i64 r.2]] := .mk fun _ k _ hh => ⟨_, k, hh⟩
theorem rc_fold {b6 b7 : Nat} (r : Int × Int) : ∀ h, Sep [.blk b6 40 [.int .u32 r.1], .blk b7 374 [.int .i64 r.2]] h → rcC b6 b7 r h := fun _ h => h
theorem fstop {a w : Int} {pre : List Sto} {x : Sto} {r : Int × Int} (hn : ∀ y ∈ pre, fwd1 a w y = none) (h : fwd1 a w x = some r) : r = fwdL a w (pre ++ [x]) ∧ FStop a w (pre ++ [x]) (fwdL a w (pre ++ [x])) := by
  have h1 : FStop a w (pre ++ [x]) r := ⟨pre, x, rfl, hn, h⟩
  have h2 := h1.eq (List.prefix_refl _)
  exact ⟨h2.symm, by rw [h2]; exact h1⟩
theorem c246 (b : Nat) (l : List Sto) (a w : Int) (ha : U32 a) : Sp Tryz.prog 246 [.pointer (some ⟨b, 0, none⟩), .int .u32 a, .int .i64 w] [.hp (bufC b l)] fun K => K (.returned (.tuple #[.int .u32 (fwd l a w).1, .int .i64 (fwd l a w).2])) [.hp (bufC b l)] := by
  have ha' := ha
  unfold U32 at ha'
  cases hk : wOk w with
  | false =>
    rw [show fwd l a w = (0, 0) from if_neg fun h => by rw [hk] at h; cases h.1]
    refine ZenM Tryz.func246 rfl rfl rfl fun e X Φ hS => Zsr <| Ze (ebx rfl) fun b5 => Zw <| Ze (eal z40) fun b6 => Zw <| Ze (eal z374) fun b7 => Zw <| Znl <| Znx <| Zsq <| Zsr <| Zv (yd 2 rfl rfl rfl) ?_
    refine Zk (c292 ..) [] rfl rfl <| Zq <| Zv (ynot rfl) <| Zv (ym rfl) <| Zu' rfl rfl (congrArg Bool.not hk) rfl <| Zu' rfl rfl (congrArg Bool.not hk) rfl <| Zu' rfl rfl (congrArg Bool.not hk) rfl <| Zu' rfl rfl (congrArg Bool.not hk) rfl <| Zu' rfl rfl (congrArg Bool.not hk) rfl <| Zv (ypt' rfl (congrArg Bool.not hk) rfl) ?_
    refine Znl <| Znx <| Zct rfl <| Zsr <| Ze (es 1 rfl rfl rfl rfl rfl) <| Zw0 <| Ze (es 0 rfl rfl rfl rfl rfl) <| Zw0 <| Znl <| Znx <| Zrt <| Zr1 ?_
    refine Zre (.c 1 rfl rfl rfl (.c 0 rfl rfl rfl .n)) hS [3] 3 rfl rfl rfl rfl
  | true =>
    have hw : w = 1 ∨ w = 2 ∨ w = 4 := by simp [wOk] at hk; omega
    refine ZenM Tryz.func246 rfl rfl rfl fun e X Φ hS => Zoc 0 buf_le rfl <| fun h4 hal => Zsr <| Ze (ebx rfl) fun b5 => Zw <| Ze (eal z40) fun b6 => Zw <| Ze (eal z374) fun b7 => Zw <| Znl <| Znx <| Zsq <| Zsr <| Zv (yd 2 rfl rfl rfl) ?_
    refine Zk (c292 ..) [] rfl rfl <| Zq <| Zv (ynot rfl) <| Zv (ym rfl) <| Zg' rfl rfl (congrArg Bool.not hk) <| Zv (ym rfl) <| Zg' rfl rfl (congrArg Bool.not hk) <| Zv (yd 2 rfl rfl rfl) <| Zg' rfl rfl (congrArg Bool.not hk) <| Zv (ycv Tryz.underlying3 Tryz.underlying40 rfl (u32w rfl (by omega))) ?_
    refine Zg' rfl rfl (congrArg Bool.not hk) <| Zv (yrem rfl rfl (by omega) rfl) <| Zg' rfl rfl (congrArg Bool.not hk) <| Zv (yne rfl rfl) <| Zv (ypf' rfl (congrArg Bool.not hk) rfl) <| Znl <| Znx <| Zif rfl (fun h20 => ?_) (fun h20 => ?_)
    refine Zsr <| Ze (es 1 rfl rfl rfl rfl rfl) <| Zw0 <| Ze (es 0 rfl rfl rfl rfl rfl) <| Zw0 <| Znl <| Znx <| Zrt <| Zr1 <| Zre (.c 1 rfl rfl rfl (.c 0 rfl rfl rfl .n)) hS [3] 3 ?_ rfl rfl rfl
    rotate_left
    refine Zsk <| Znx <| Zsr <| Zv (ym rfl) <| Zv (yd 2 rfl rfl rfl) <| Zv (yb l51 rfl) <| Zv (yb l212 rfl) <| Ze (eal z212) fun b8 => Zw <| Ze (esw 0 (m := 3) rfl rfl rfl rfl rfl rfl rfl) <| Zw0 <| Znl ?_
    refine Znx <| Zsq <| Zsr <| Zv (ym rfl) <| Zk (c98 ..) [] rfl rfl <| fun b1 => Zq <| Znl <| Znx <| Zbl ?_
    rotate_left
    · rw [show fwd l a w = (0, 0) from if_neg fun h => h20 (by rw [Int.tmod_eq_emod_of_nonneg ha.1]; exact h.2)]
      rfl
    · have e1 : fwd l a w = fwdL a w l.reverse := if_pos ⟨hk, by rw [Int.tmod_eq_emod_of_nonneg ha.1] at h20; simpa using h20⟩
      rw [e1] at hS
      refine Zrf (q147 b b1 l) (fun _ => [.blk b6 40 [.int .u32 0], .blk b7 374 [.int .i64 0], .blk b8 212 (wE.cells ⟨a, w, 0⟩), .blk b5 3 [.int .i64 w]]) (fun pre => ∀ y ∈ pre, fwd1 a w y = none) (fun pre => [.hp (rcC b6 b7 (fwdL a w pre))]) (fun pre => FStop a w pre (fwdL a w pre)) (fun _ _ => []) (fun _ _ => False) [5,0,2,1,0,0] rfl rfl ?_ (fun e' y pre x F hx hn => ?_) (fun D hn => ?_) (fun D pre hx hp => ?_) (fun D id pre hx hp => ?_) (fun _ => rfl) (by decide)
      refine fun y => fun a_1 => ?_
      rotate_left
      refine Zrg <| Ze (eal z212) fun b9 => Zw <| Ze (esw 0 (m := 3) rfl rfl rfl rfl rfl (Enc.len ..) (Enc.allL ..)) <| Zw0 <| Znl <| Zak 5 rfl fun F' => Zbl <| Zsq <| Zbl <| Zsq <| Zhd [] rfl rfl ?_
      refine Zht 0 rfl (ydw 3 (m := 3) rfl rfl (Enc.len ..)) <| Zht 2 rfl (ydw 0 (m := 3) rfl rfl (Enc.len ..)) <| Zh1 1 (by kernel_rfl) <| Zok (c293 ..) [] rfl rfl rfl <| Zqh 0 rfl ?_
      rotate_left
      refine Zxn <| Znx <| Zsr <| Ze (es 1 rfl rfl rfl rfl rfl) <| Zw0 <| Ze (es 2 rfl rfl rfl rfl rfl) <| Zw0 <| Znl <| Znx <| Zrt <| Zmk 0 rfl <| Zre (.c 0 rfl rfl rfl (.c 1 rfl rfl rfl .n)) hS [4] 5 ?_ rfl rfl rfl
      rotate_left
      refine Zrt <| Zr2 <| Zr1 <| Zmk 0 rfl ?_
      rotate_left
      refine Zex ?_
      rotate_left
      · exact (by assumption : _ ∈ ([] : List Sto)) |> fun h => by cases h
      · have hxi := hal x (mem_pre hx)
        have hxa := hxi.ad
        have hxw := hxi.w
        have hxa' := hxa
        have hsp := hxi.spec.1
        unfold U32 at hxa'
        refine Zh1 3 (by kernel_rfl) <| Zok (c294 ..) [] rfl rfl rfl <| Zqh 0 rfl <| Zht 4 rfl (yle rfl rfl) <| Zht 5 rfl (ym rfl) <| Zhgs 6 rfl rfl rfl (fun h34 => ?_) (fun h34 => ?_)
        refine Zhu 6 rfl rfl (lkn rfl (decide_eq_true h34)) rfl <| Zhu 7 rfl rfl (lkn rfl (decide_eq_true h34)) rfl <| Zhu 8 rfl rfl (lkn rfl (decide_eq_true h34)) rfl <| Zhu 9 rfl rfl (lkn rfl (decide_eq_true h34)) rfl <| Zhu 10 rfl rfl (lkn rfl (decide_eq_true h34)) rfl <| Zht 11 rfl (ypt' rfl (decide_eq_true h34) rfl) <| Zht 12 rfl (ya rfl) <| Zhn (by kernel_rfl) <| Znx <| Zct rfl ?_
        refine Zex <| Zxb rfl <| Zxt <| Zxx ?_
        rotate_left
        refine Zhg 6 rfl rfl (lkn rfl (decide_eq_false h34)) (ydw 0 (m := 3) rfl rfl (Enc.len ..)) <| Zhg 8 rfl rfl (lkn rfl (decide_eq_false h34)) (ydw 3 (m := 3) rfl rfl (Enc.len ..)) <| Zh1 7 (by kernel_rfl) <| Zok (hg := fun _ fr => fr.want rfl rfl (lkn rfl (decide_eq_false h34))) (c293 ..) [] rfl rfl rfl <| Zqh 0 rfl <| Zh1 9 (by kernel_rfl) <| Zok (hg := fun _ fr => fr.want rfl rfl (lkn rfl (decide_eq_false h34))) (c294 ..) [] rfl rfl rfl <| Zqh 0 rfl <| Zhg 10 rfl rfl (lkn rfl (decide_eq_false h34)) (yle rfl rfl) <| Zht 11 rfl (ypf' rfl (decide_eq_false h34) rfl) <| Zht 12 rfl (ya rfl) <| Zhn (by kernel_rfl) ?_
        refine Znx <| Zif rfl (fun h28 => ?_) (fun h28 => ?_)
        refine Zex <| Zxb rfl <| Zxt <| Zxx ?_
        rotate_left
        refine Zsq <| Zhd [] rfl rfl <| Zht 0 rfl (ydw 3 (m := 3) rfl rfl (Enc.len ..)) <| Zht 2 rfl (ydw 0 (m := 3) rfl rfl (Enc.len ..)) <| Zh1 1 (by kernel_rfl) <| Zok (c294 ..) [] rfl rfl rfl <| Zqh 0 rfl <| Zh1 3 (by kernel_rfl) <| Zok (c294 ..) [] rfl rfl rfl <| Zqh 0 rfl <| Zht 4 rfl (ylt rfl rfl) <| Zht 5 rfl (ym rfl) ?_
        refine Zhgs 6 rfl rfl rfl (fun h47 => ?_) (fun h47 => ?_)
        refine Zhu 6 rfl rfl (lkn rfl (decide_eq_true h47)) rfl <| Zhu 7 rfl rfl (lkn rfl (decide_eq_true h47)) rfl <| Zhu 8 rfl rfl (lkn rfl (decide_eq_true h47)) rfl <| Zhu 9 rfl rfl (lkn rfl (decide_eq_true h47)) rfl <| Zhu 10 rfl rfl (lkn rfl (decide_eq_true h47)) rfl <| Zht 11 rfl (ypt' rfl (decide_eq_true h47) rfl) <| Zht 12 rfl (ya rfl) <| Zhn (by kernel_rfl) <| Znx <| Zct rfl ?_
        refine Zsr <| Ze (es 1 rfl rfl rfl rfl rfl) <| Zw0 <| Ze (es 2 rfl rfl rfl rfl rfl) <| Zw0 <| Znl <| Znx <| Zrt <| Zr2 <| Zr1 <| Zr2 ?_
        rotate_left
        refine Zhg 6 rfl rfl (lkn rfl (decide_eq_false h47)) (ydw 0 (m := 3) rfl rfl (Enc.len ..)) <| Zhg 8 rfl rfl (lkn rfl (decide_eq_false h47)) (ydw 3 (m := 3) rfl rfl (Enc.len ..)) <| Zh1 7 (by kernel_rfl) <| Zok (hg := fun _ fr => fr.want rfl rfl (lkn rfl (decide_eq_false h47))) (c293 ..) [] rfl rfl rfl <| Zqh 0 rfl <| Zh1 9 (by kernel_rfl) <| Zok (hg := fun _ fr => fr.want rfl rfl (lkn rfl (decide_eq_false h47))) (c293 ..) [] rfl rfl rfl <| Zqh 0 rfl <| Zhg 10 rfl rfl (lkn rfl (decide_eq_false h47)) (ylt rfl rfl) <| Zht 11 rfl (ypf' rfl (decide_eq_false h47) rfl) <| Zht 12 rfl (ya rfl) <| Zhn (by kernel_rfl) ?_
        refine Znx <| Zif rfl (fun h41 => ?_) (fun h41 => ?_)
        refine Zsr <| Ze (es 1 rfl rfl rfl rfl rfl) <| Zw0 <| Ze (es 2 rfl rfl rfl rfl rfl) <| Zw0 <| Znl <| Znx <| Zrt <| Zr2 <| Zr1 <| Zr2 ?_
        rotate_left
        refine Zsk <| Zxn <| Znx <| Zsq <| Zhd [] rfl rfl <| Zht 0 rfl (yf 0 rfl) <| Zht 1 rfl (yf 2 rfl) <| Zht 2 rfl (yd 0 rfl rfl rfl) <| Zht 3 rfl (ydw 3 (m := 3) rfl rfl (Enc.len ..)) <| Zht 5 rfl (ydw 0 (m := 3) rfl rfl (Enc.len ..)) ?_
        refine Zh1 4 (by kernel_rfl) <| Zok (c294 ..) [] rfl rfl rfl <| Zqh 0 rfl <| Zh1 6 (by kernel_rfl) <| Zok (c294 ..) [] rfl rfl rfl <| Zqh 0 rfl <| Zht 7 rfl (ysub rfl rfl (u64w rfl (by omega))) <| Zht 8 rfl (ymul rfl rfl (u64w rfl (by omega))) <| Zht 9 rfl (yshr rfl rfl (by omega) rfl) <| Zht 10 rfl (ya rfl) <| Zhn (by kernel_rfl) <| Znx ?_
        refine Zsq <| Zsr <| Zv (yd 4 rfl rfl rfl) <| Zv (ylt rfl rfl) <| Znl <| Znx <| Zif rfl (fun h65 => ?_) (fun h65 => ?_)
        refine Zrg <| Zv (ym rfl) <| Zv (yd 4 rfl rfl rfl) <| Zv (ymul rfl rfl (i64w rfl (by omega))) <| Zv (yshl rfl rfl (by omega) rfl) <| Zv (ysub rfl rfl rfl) <| Zv (yand rfl rfl rfl) <| Zv (ya rfl) <| Znl <| Znx ?_
        refine Zsr <| Zv (ym rfl) <| Ze (es 1 rfl rfl rfl rfl rfl) <| Zw0 <| Ze (es 2 rfl rfl rfl rfl rfl) <| Zw0 <| Znl <| Znx <| Zrt <| Zr2 ?_
        rotate_left
        refine Zsk <| Znx <| Zsr <| Zv (ym rfl) <| Ze (es 1 rfl rfl rfl rfl rfl) <| Zw0 <| Ze (es 2 rfl rfl rfl rfl rfl) <| Zw0 <| Znl <| Znx <| Zrt <| Zr2 ?_
        rotate_left
        · refine Zrn (fno_step hn (fwd1_none (.inl h34))) [1,1,1,1] 1 rfl rfl
        · refine Zrn (fno_step hn (fwd1_none (.inr h28))) [1,1,1,1] 1 rfl rfl
        · obtain ⟨e2, h2⟩ := fstop hn (fwd1_part (fun h => h.elim h34 h28) (.inl h47))
          refine Zfx [1,1] (rc_fold (b6 := b6) (b7 := b7) (0, 2)) rfl ?_
          rw [e2]
          refine Zrr h2 [0] 3 rfl rfl
        · obtain ⟨e2, h2⟩ := fstop hn (fwd1_part (fun h => h.elim h34 h28) (.inr h41))
          refine Zfx [1,1] (rc_fold (b6 := b6) (b7 := b7) (0, 2)) rfl ?_
          rw [e2]
          refine Zrr h2 [0] 3 rfl rfl
        · have e3 : fwd1 a w x = some (mskF w (x.value.fdiv (2 ^ min (8 * (a - x.addr)).toNat 32)), 1) := by
            unfold fwd1
            rw [if_neg (fun h => h.elim h34 h28), if_neg (fun h => h.elim h47 h41), if_pos h65]
          obtain ⟨e2, h2⟩ := fstop hn e3
          refine Zfx [1,1] (rc_fold (b6 := b6) (b7 := b7) (mskF w (x.value.fdiv (2 ^ min (8 * (a - x.addr)).toNat 32)), 1)) rfl ?_
          rw [e2]
          refine Zrr h2 [0] 3 rfl rfl
        · have e3 : fwd1 a w x = some (x.value.fdiv (2 ^ min (8 * (a - x.addr)).toNat 32), 1) := by
            unfold fwd1
            rw [if_neg (fun h => h.elim h34 h28), if_neg (fun h => h.elim h47 h41), if_neg h65]
          obtain ⟨e2, h2⟩ := fstop hn e3
          refine Zfx [1,1] (rc_fold (b6 := b6) (b7 := b7) (x.value.fdiv (2 ^ min (8 * (a - x.addr)).toNat 32), 1)) rfl ?_
          rw [e2]
          refine Zrr h2 [0] 3 rfl rfl
      · rw [fdone hn]
        rfl
      · refine Zox 0 rc_op rfl <| Zre (.c 0 rfl rfl rfl (.c 1 rfl rfl rfl .n)) hS [2] 3 ?_ rfl rfl rfl
        rw [hp.eq hx]
        rfl
      · exact hp.elim
end Go.Proofs.YtpfijldkkfiooaaGreatDoor
namespace Go.Proofs.YtpfijldkkfiooaaGreatDoor
open Go.RowKit
abbrev B16 := { l : List Int // l.length = 16 ∧ ∀ a ∈ l, 0 ≤ a ∧ a < 256 }
def b16z : B16 := ⟨List.replicate 16 0, by simp, by simp⟩
structure Ln where
  num : Int
  state : Int
  bs : B16
  hn : 0 ≤ num ∧ num < 4294967296
theorem Ln.ext_iff' (m m' : Ln) : m = m' ↔ m.num = m'.num ∧ m.state = m'.state ∧ m.bs.1 = m'.bs.1 := by
  constructor
  · rintro rfl; simp
  · rintro ⟨h1, h2, h3⟩
    cases m; cases m'
    simp only [Ln.mk.injEq]
    exact ⟨h1, h2, Subtype.ext h3⟩
instance : DecidableEq Ln := fun s t => decidable_of_iff _ (Ln.ext_iff' s t).symm
def Ln.cells (m : Ln) : List Value := .int .u32 m.num :: .int .i64 m.state :: m.bs.1.map (Value.int .u8)
theorem sizeU8 : (Tryz.prog.info? 5).map (·.size) = some 1 := by kernel_rfl
theorem Ln.len (m : Ln) : m.cells.length = 18 := by simp [Ln.cells, m.bs.2.1]
theorem Ln.one (m : Ln) : ∀ v ∈ m.cells, v.oneCell' = true := by
  intro v hv
  simp only [Ln.cells, List.mem_cons, List.mem_map] at hv
  rcases hv with rfl | rfl | ⟨a, _, rfl⟩ <;> rfl
def lnE : Enc Tryz.prog Ln where
  T := 145
  n := 18
  cells := Ln.cells
  len := Ln.len
  one := Ln.one
  pos := by decide
def ln0 : Ln := ⟨0, 0, b16z, by decide⟩
theorem elLn : ElemI lnE 79 32 := ⟨Tryz.underlying79, by
  obtain ⟨i0, hi, hz0, hz1, hz2⟩ := info_parts (show (Tryz.prog.info? 145).map (fun i => (i.zero, i.size, i.bytes)) = some (some (.agg (lnE.arr ln0)), 18, 32) by kernel_rfl)
  exact ⟨i0, _, hi, hz0, hz1, hz2, by rw [show (Value.agg (lnE.arr ln0)).cells = lnE.arr ln0 from rfl, lnE.size]⟩⟩
structure Msg where
  kind : Int
  src : Int
  dst : Int
  line : Int
  bs : B16
  hn : 0 ≤ line ∧ line < 4294967296
def Msg.cells (m : Msg) : List Value := .int .i64 m.kind :: .int .i64 m.src :: .int .i64 m.dst :: .int .u32 m.line :: m.bs.1.map (Value.int .u8)
theorem Msg.eq_iff (m m' : Msg) : m = m' ↔ m.kind = m'.kind ∧ m.src = m'.src ∧ m.dst = m'.dst ∧ m.line = m'.line ∧ m.bs.1 = m'.bs.1 := by
  constructor
  · rintro rfl; simp
  · rintro ⟨h1, h2, h3, h4, h5⟩
    cases m; cases m'
    simp only [Msg.mk.injEq]
    exact ⟨h1, h2, h3, h4, Subtype.ext h5⟩
instance : DecidableEq Msg := fun s t => decidable_of_iff _ (Msg.eq_iff s t).symm
theorem msg_eq (w : World) (m m' : Msg) : (Op.equal 117 (.agg m.cells.toArray) (.agg m'.cells.toArray)).run Tryz.prog w = .ok (decide (m = m')) w := by
  have h := run_equalIn_struct (P := Tryz.prog) w 9999 117 m.cells.toArray m'.cells.toArray (by kernel_rfl) (by kernel_rfl)
  have ha : (Op.equalIn 9999 115 (.agg (m.bs.1.map (Value.int .u8)).toArray) (.agg (m'.bs.1.map (Value.int .u8)).toArray)).run Tryz.prog w = .ok (decide (m.bs.1 = m'.bs.1)) w :=
    run_equalIn_arr (P := Tryz.prog) w 9997 Tryz.underlying115 Tryz.underlying5 sizeU8 m.bs.1 m'.bs.1 m.bs.2.1 m'.bs.2.1
  have t1 : List.take 16 (m.bs.1.map (Value.int .u8)) = m.bs.1.map (Value.int .u8) := List.take_of_length_le (by simp [m.bs.2.1])
  have t2 : List.take 16 (m'.bs.1.map (Value.int .u8)) = m'.bs.1.map (Value.int .u8) := List.take_of_length_le (by simp [m'.bs.2.1])
  show (Op.equalIn (9999 + 1) 117 _ _).run Tryz.prog w = _
  rw [h]
  simp only [Program.fieldsOf, Tryz.underlying117, Op.eqFields]
  simp [go_sem, Msg.cells, Msg.eq_iff, t1, t2]
  by_cases a1 : m.kind = m'.kind
  · by_cases a2 : m.src = m'.src
    · by_cases a3 : m.dst = m'.dst
      · by_cases a4 : m.line = m'.line
        · simp only [a1, a2, a3, a4, if_true, ha, Result.andThen]
          by_cases a5 : m.bs.1 = m'.bs.1 <;> simp [a5]
        · simp [a1, a2, a3, a4]
      · simp [a1, a2, a3]
    · simp [a1, a2]
  · simp [a1]
theorem Msg.len (m : Msg) : m.cells.length = 20 := by simp [Msg.cells, m.bs.2]
theorem Msg.one (m : Msg) : ∀ v ∈ m.cells, v.oneCell' = true := by
  intro v hv
  simp only [Msg.cells, List.mem_cons, List.mem_map] at hv
  rcases hv with rfl | rfl | rfl | rfl | ⟨a, _, rfl⟩ <;> rfl
def msgE : Enc Tryz.prog Msg where
  T := 117
  n := 20
  cells := Msg.cells
  len := Msg.len
  one := Msg.one
  pos := by decide
theorem msgER : msgE.Rec where
  eq := msg_eq
  calm := by kernel_rfl
def msg0 : Msg := ⟨0, 0, 0, 0, b16z, by decide⟩
def bs0 : B16 := b16z
def mkM (k s d l : Int) (b : B16 := b16z) (h : 0 ≤ l ∧ l < 4294967296 := by omega) : Msg := ⟨k, s, d, l, b, h⟩
def b16c (b : B16) : List Value := b.1.map (Value.int .u8)
def bsE : Enc Tryz.prog B16 where
  T := 115
  n := 16
  cells := b16c
  len := fun b => by simp [b16c, b.2.1]
  one := fun b v hv => by
    obtain ⟨a, _, rfl⟩ := List.mem_map.1 hv
    rfl
  pos := by decide
theorem bsER : bsE.Rec where
  eq := fun w x y => by
    have h := run_equal_arr (P := Tryz.prog) w Tryz.underlying115 Tryz.underlying5 sizeU8 x.1 y.1 x.2.1 y.2.1
    refine (show _ = _ from h).trans ?_
    rw [show decide (x.1 = y.1) = decide (x = y) from decide_eq_decide.2 Subtype.ext_iff.symm]
  calm := by kernel_rfl
theorem elMsg : ElemI msgE 112 48 := ⟨Tryz.underlying112, by
  obtain ⟨i0, hi, hz0, hz1, hz2⟩ := info_parts (show (Tryz.prog.info? 117).map (fun i => (i.zero, i.size, i.bytes)) = some (some (.agg (msgE.arr msg0)), 20, 48) by kernel_rfl)
  exact ⟨i0, _, hi, hz0, hz1, hz2, by rw [show (Value.agg (msgE.arr msg0)).cells = msgE.arr msg0 from rfl, msgE.size]⟩⟩
def isCache (n : Int) : Bool := decide (0 ≤ n) && decide (n ≤ 3)
def homeK (k : Int) : Bool := decide (k = 1) || decide (k = 2) || decide (k = 3) || decide (k = 11) || decide (k = 12) || decide (k = 13)
def cacheK (k : Int) : Bool := decide (k = 4) || decide (k = 5) || decide (k = 6) || decide (k = 7) || decide (k = 8) || decide (k = 9) || decide (k = 10)
def bytesK (k : Int) : Bool := decide (k = 3) || decide (k = 11) || decide (k = 8) || decide (k = 9) || decide (k = 10)
def goodMsg (m : Msg) : Bool := ((homeK m.kind && decide (m.dst = 4) && isCache m.src) || (cacheK m.kind && decide (m.src = 4) && isCache m.dst)) && (bytesK m.kind || decide (m.bs = bs0))
def chk (m : Msg) : Int := if goodMsg m then 0 else 2
theorem home_not (k : Int) (h : homeK k = true) : cacheK k = false := by
  simp [homeK, cacheK] at *
  omega
def isK (k : Int) : Bool := decide (1 ≤ k) && decide (k ≤ 13)
theorem isK_iff (k : Int) : isK k = (homeK k || cacheK k) := by
  rw [Bool.eq_iff_iff]
  simp [isK, homeK, cacheK]
  omega
theorem msg_bs' (m : Msg) : ((msgE.cells m).drop 4).take 16 = bsE.cells m.bs := by
  show (m.cells.drop 4).take 16 = b16c m.bs
  unfold Msg.cells b16c
  simp only [List.drop_succ_cons, List.drop_zero]
  exact List.take_of_length_le (by simp [m.bs.2.1])
theorem ln_bs' (m : Ln) : ((lnE.cells m).drop 2).take 16 = bsE.cells m.bs := by
  show (m.cells.drop 2).take 16 = b16c m.bs
  unfold Ln.cells b16c
  simp only [List.drop_succ_cons, List.drop_zero]
  exact List.take_of_length_le (by simp [m.bs.2.1])
section
variable {P : Program} {α : Type} [DecidableEq α] {E : Enc P α} {N : Nat × List Deferred} {T : Tb} {e : World} {L : List Ck} {x y : Operand} {t t' ty : TypeId} {pos : String} {af : Array Edge} {g : Option (Nat × Bool)} {dd : Option Nat}
theorem yneE (R : E.Rec) (p q : α) (hx : evT T x = some (.agg (E.arr p))) (hy : evT T y = some (.agg (E.arr q))) (hT : E.T = t := by rfl) : Yl P N T e L ⟨dd, .binOp .neq t x y t', ty, pos, af, g⟩ (.bool (!decide (p = q))) := fun _ _ fr _ => x_neE R hT rfl (fr.evT hx) (fr.evT hy) rfl
end
end Go.Proofs.YtpfijldkkfiooaaGreatDoor
namespace Go.Proofs.YtpfijldkkfiooaaGreatDoor
open Go.RowKit
def fndI (l : List Ln) (number : Int) : Int := if l.findIdx (fun x => decide (x.num = number)) < l.length then (l.findIdx (fun x => decide (x.num = number)) : Nat) else -1
section
variable {l : List Ln} {number : Int} {i : Nat}
theorem fnd_yes (hi : i < l.length) (h : (l.getD i ln0).num = number) (hall : ∀ j, j < i → ¬ (l.getD j ln0).num = number) : fndI l number = i := by
  have e : l.findIdx (fun x => decide (x.num = number)) = i := by
    rw [List.findIdx_eq hi]
    constructor
    · have := h
      simp only [List.getD, List.getElem?_eq_getElem hi, Option.getD_some] at this
      simpa using this
    · intro j hj
      have := hall j hj
      simp only [List.getD, List.getElem?_eq_getElem (show j < l.length by omega), Option.getD_some] at this
      simpa using this
  unfold fndI
  rw [e, if_pos hi]
theorem fnd_no (hall : ∀ j, j < l.length → ¬ (l.getD j ln0).num = number) : fndI l number = -1 := by
  unfold fndI
  rw [if_neg]
  intro hlt
  have h1 := List.findIdx_getElem (w := hlt)
  have := hall _ hlt
  simp only [List.getD, List.getElem?_eq_getElem hlt, Option.getD_some] at this
  simp at h1
  exact this h1
theorem fnd_spec (l : List Ln) (number : Int) : (fndI l number = -1 ∧ ∀ x ∈ l, ¬ x.num = number) ∨ ∃ i : Nat, fndI l number = i ∧ i < l.length ∧ (l.getD i ln0).num = number ∧ ∀ j, j < i → ¬ (l.getD j ln0).num = number := by
  by_cases hlt : l.findIdx (fun x => decide (x.num = number)) < l.length
  · refine .inr ⟨_, by unfold fndI; rw [if_pos hlt], hlt, ?_, fun j hj => ?_⟩
    · have h1 := List.findIdx_getElem (w := hlt)
      simpa [List.getD, hlt] using h1
    · have h1 := List.not_of_lt_findIdx hj
      have hj2 : j < l.length := by omega
      simpa [List.getD, hj2] using h1
  · refine .inl ⟨by unfold fndI; rw [if_neg hlt], fun x hx hn => hlt ?_⟩
    exact List.findIdx_lt_length_of_exists ⟨x, hx, by simpa using hn⟩
end
def si (n : Nat) (num : Int) : Nat := (num % (n : Int)).toNat
section
variable {n i : Nat} {num : Int} {L : List Ln} {l : Ln} {ways : Int}
theorem si_lt (hn : 0 < n) : si n num < n := by
  unfold si
  have h1 := Int.emod_nonneg num (show (n : Int) ≠ 0 by omega)
  have h2 := Int.emod_lt_of_pos num (show (0 : Int) < n by omega)
  omega
def inSet (n i : Nat) (x : Ln) : Bool := decide (si n x.num = i)
def ofs (n : Nat) (L : List Ln) (i : Nat) : List Ln := L.filter (inSet n i)
def isNum (num : Int) (x : Ln) : Bool := decide (x.num = num)
def getN (L : List Ln) (num : Int) : Option Ln := L.find? (isNum num)
def Uniq (L : List Ln) : Prop := L.Pairwise fun x y => ¬ x.num = y.num
def okS (l : Ln) : Bool := decide (1 ≤ l.state) && decide (l.state ≤ 3)
def repl (l : Ln) : List Ln → List Ln
  | [] => []
  | x :: r => if x.num = l.num then l :: r else x :: repl l r
def remf (num : Int) : List Ln → List Ln
  | [] => []
  | x :: r => if x.num = num then r else x :: remf num r
def dropL (L : List Ln) (num : Int) : List Ln := L.filter fun x => !isNum num x
def putE (n : Nat) (ways : Int) (L : List Ln) (l : Ln) : Int := if okS l = false then 2 else if getN L l.num = none ∧ ways ≤ ((ofs n L (si n l.num)).length : Int) then 200 else 0
def putL (n : Nat) (ways : Int) (L : List Ln) (l : Ln) : List Ln := if putE n ways L l = 0 then (if getN L l.num = none then L ++ [l] else repl l L) else L
theorem fnd_none (h : fndI L num = -1 ∧ ∀ x ∈ L, ¬ x.num = num) : getN L num = none := by
  unfold getN
  rw [List.find?_eq_none]
  intro x hx
  simp [isNum, h.2 x hx]
theorem get_at : ∀ {L : List Ln} {i : Nat}, i < L.length → (L.getD i ln0).num = num → (∀ j, j < i → ¬ (L.getD j ln0).num = num) → getN L num = some (L.getD i ln0)
  | [], i, hi, _, _ => by simp at hi
  | x :: r, 0, _, h, _ => by
    have h : x.num = num := h
    show (x :: r).find? _ = some x
    simp [List.find?, isNum, h]
  | x :: r, i + 1, hi, h, hall => by
    have h0 : ¬ x.num = num := hall 0 (by omega)
    show (x :: r).find? _ = _
    simp only [List.find?, isNum, decide_eq_false h0]
    have := get_at (L := r) (i := i) (by simpa using hi) h fun j hj => hall (j + 1) (by omega)
    simpa [getN, isNum] using this
theorem set_at : ∀ {L : List Ln} {i : Nat}, i < L.length → (L.getD i ln0).num = l.num → (∀ j, j < i → ¬ (L.getD j ln0).num = l.num) → L.set i l = repl l L
  | [], i, hi, _, _ => by simp at hi
  | x :: r, 0, _, h, _ => by
    have h : x.num = l.num := h
    simp [repl, h]
  | x :: r, i + 1, hi, h, hall => by
    have h0 : ¬ x.num = l.num := hall 0 (by omega)
    simp only [List.set_cons_succ, repl, if_neg h0]
    rw [set_at (L := r) (i := i) (by simpa using hi) h fun j hj => hall (j + 1) (by omega)]
theorem rem_at : ∀ {L : List Ln} {i : Nat}, i < L.length → (L.getD i ln0).num = num → (∀ j, j < i → ¬ (L.getD j ln0).num = num) → L.take i ++ L.drop (i + 1) = remf num L
  | [], i, hi, _, _ => by simp at hi
  | x :: r, 0, _, h, _ => by
    have h : x.num = num := h
    simp [remf, h]
  | x :: r, i + 1, hi, h, hall => by
    have h0 : ¬ x.num = num := hall 0 (by omega)
    simp only [List.take_succ_cons, List.drop_succ_cons, remf, if_neg h0, List.cons_append]
    rw [rem_at (L := r) (i := i) (by simpa using hi) h fun j hj => hall (j + 1) (by omega)]
theorem rem_no (h : ∀ x ∈ L, ¬ x.num = num) : L.filter (fun x => !isNum num x) = L := by
  rw [List.filter_eq_self]
  intro x hx
  simp [isNum, h x hx]
theorem remf_uniq : ∀ {L : List Ln}, Uniq L → remf num L = dropL L num
  | [], _ => rfl
  | x :: r, hu => by
    have hu' := List.pairwise_cons.1 hu
    by_cases h0 : x.num = num
    · simp only [remf, if_pos h0, dropL, List.filter, isNum, decide_eq_true h0, Bool.not_true]
      have := rem_no (num := num) (L := r) fun y hy he => hu'.1 y hy (h0.trans he.symm)
      simpa [isNum] using this.symm
    · simp only [remf, if_neg h0, dropL, List.filter, isNum, decide_eq_false h0, Bool.not_false]
      rw [remf_uniq hu'.2]
      rfl
theorem ofs_get (L : List Ln) (num : Int) : getN (ofs n L (si n num)) num = getN L num := by
  unfold getN ofs
  induction L with
  | nil => rfl
  | cons x r ih =>
    by_cases h0 : x.num = num
    · have : inSet n (si n num) x = true := by simp [inSet, h0]
      rw [List.filter_cons_of_pos this]
      simp [List.find?, isNum, h0]
    · by_cases h1 : inSet n (si n num) x = true
      · rw [List.filter_cons_of_pos h1]
        simp only [List.find?, isNum, decide_eq_false h0]
        simpa [isNum] using ih
      · rw [List.filter_cons_of_neg h1]
        simp only [List.find?, isNum, decide_eq_false h0]
        simpa [isNum] using ih
theorem ofs_repl_same (L : List Ln) (l : Ln) : ofs n (repl l L) (si n l.num) = repl l (ofs n L (si n l.num)) := by
  unfold ofs
  induction L with
  | nil => rfl
  | cons x r ih =>
    by_cases h0 : x.num = l.num
    · have h1 : inSet n (si n l.num) x = true := by simp [inSet, h0]
      have h2 : inSet n (si n l.num) l = true := by simp [inSet]
      rw [List.filter_cons_of_pos h1]
      simp only [repl, if_pos h0]
      rw [List.filter_cons_of_pos h2]
    · simp only [repl, if_neg h0]
      by_cases h1 : inSet n (si n l.num) x = true
      · rw [List.filter_cons_of_pos h1, List.filter_cons_of_pos h1]
        simp only [repl, if_neg h0]
        rw [ih]
      · rw [List.filter_cons_of_neg h1, List.filter_cons_of_neg h1, ih]
theorem ofs_repl_other (L : List Ln) (l : Ln) (h : ¬ i = si n l.num) : ofs n (repl l L) i = ofs n L i := by
  unfold ofs
  induction L with
  | nil => rfl
  | cons x r ih =>
    by_cases h0 : x.num = l.num
    · have h1 : ¬ inSet n i x = true := by simp [inSet, h0]; exact fun e => h e.symm
      have h2 : ¬ inSet n i l = true := by simp [inSet]; exact fun e => h e.symm
      rw [List.filter_cons_of_neg h1]
      simp only [repl, if_pos h0]
      rw [List.filter_cons_of_neg h2]
    · simp only [repl, if_neg h0]
      by_cases h1 : inSet n i x = true
      · rw [List.filter_cons_of_pos h1, List.filter_cons_of_pos h1, ih]
      · rw [List.filter_cons_of_neg h1, List.filter_cons_of_neg h1, ih]
theorem ofs_snoc_same (L : List Ln) (l : Ln) : ofs n (L ++ [l]) (si n l.num) = ofs n L (si n l.num) ++ [l] := by simp [ofs, List.filter_append, List.filter, inSet]
theorem ofs_snoc_other (L : List Ln) (l : Ln) (h : ¬ i = si n l.num) : ofs n (L ++ [l]) i = ofs n L i := by
  have : inSet n i l = false := by simp [inSet]; exact fun e => h e.symm
  simp [ofs, List.filter_append, List.filter, this]
theorem ofs_drop (L : List Ln) (num : Int) : ofs n (dropL L num) i = dropL (ofs n L i) num := by
  unfold ofs dropL
  rw [List.filter_filter, List.filter_filter]
  congr 1
  funext x
  exact Bool.and_comm _ _
theorem ofs_drop_other (L : List Ln) (num : Int) (h : ¬ i = si n num) : ofs n (dropL L num) i = ofs n L i := by
  rw [ofs_drop]
  refine rem_no fun x hx e => h ?_
  have := (List.mem_filter.1 hx).2
  simp [inSet, e] at this
  exact this.symm
theorem Uniq.ofs (h : Uniq L) (i : Nat) : Uniq (ofs n L i) := List.Pairwise.filter _ h
theorem Uniq.drop (h : Uniq L) (num : Int) : Uniq (dropL L num) := List.Pairwise.filter _ h
theorem get_none (h : getN L num = none) : ∀ x ∈ L, ¬ x.num = num := fun x hx e => by
  have := List.find?_eq_none.1 h x hx
  simp [isNum, e] at this
theorem Uniq.snoc (h : Uniq L) (hn : getN L l.num = none) : Uniq (L ++ [l]) := by
  unfold Uniq
  rw [List.pairwise_append]
  refine ⟨h, by simp, fun x hx y hy => ?_⟩
  rw [List.mem_singleton] at hy
  subst hy
  exact get_none hn x hx
theorem mem_repl : ∀ {L : List Ln} {x : Ln}, x ∈ repl l L → (x ∈ L ∨ x = l)
  | [], _, h => by cases h
  | y :: r, x, h => by
    by_cases h0 : y.num = l.num
    · simp only [repl, if_pos h0] at h
      rcases List.mem_cons.1 h with h | h
      · exact .inr h
      · exact .inl (by simp [h])
    · simp only [repl, if_neg h0] at h
      rcases List.mem_cons.1 h with h | h
      · exact .inl (by simp [h])
      · rcases mem_repl h with h | h
        · exact .inl (by simp [h])
        · exact .inr h
theorem Uniq.repl : ∀ {L : List Ln}, Uniq L → Uniq (repl l L)
  | [], _ => List.Pairwise.nil
  | x :: r, hu => by
    have hu' := List.pairwise_cons.1 hu
    by_cases h0 : x.num = l.num
    · simp only [Go.Proofs.YtpfijldkkfiooaaGreatDoor.repl, if_pos h0]
      exact List.pairwise_cons.2 ⟨fun y hy e => hu'.1 y hy (h0.trans e), hu'.2⟩
    · simp only [Go.Proofs.YtpfijldkkfiooaaGreatDoor.repl, if_neg h0]
      refine List.pairwise_cons.2 ⟨fun y hy e => ?_, Uniq.repl hu'.2⟩
      rcases mem_repl hy with hy | rfl
      · exact hu'.1 y hy e
      · exact h0 e
theorem repl_len : ∀ (L : List Ln), (repl l L).length = L.length
  | [] => rfl
  | x :: r => by
    unfold repl
    split
    · rfl
    · simp [repl_len r]
theorem dropL_le (L : List Ln) (num : Int) : (dropL L num).length ≤ L.length := List.length_filter_le _ _
theorem Uniq.putL (h : Uniq L) : Uniq (putL n ways L l) := by
  unfold Go.Proofs.YtpfijldkkfiooaaGreatDoor.putL
  split
  · split
    · exact h.snoc ‹_›
    · exact h.repl
  · exact h
def Fits (n : Nat) (ways : Int) (L : List Ln) : Prop := ∀ i, i < n → ((ofs n L i).length : Int) ≤ ways
theorem Fits.drop (h : Fits n ways L) (num : Int) : Fits n ways (dropL L num) := fun i hi => by
  have := h i hi
  rw [ofs_drop]
  have h2 := dropL_le (ofs n L i) num
  omega
theorem Fits.putL (h : Fits n ways L) (l : Ln) : Fits n ways (putL n ways L l) := fun i hi => by
  have h0 := h i hi
  unfold Go.Proofs.YtpfijldkkfiooaaGreatDoor.putL
  split
  · rename_i he
    split
    · rename_i hn
      by_cases e : i = si n l.num
      · subst e
        rw [ofs_snoc_same]
        unfold putE at he
        split at he
        · omega
        · split at he
          · omega
          · rename_i h2
            simp only [List.length_append, List.length_cons, List.length_nil]
            have : ¬ ways ≤ ((ofs n L (si n l.num)).length : Int) := fun h => h2 ⟨hn, h⟩
            omega
      · rw [ofs_snoc_other _ _ e]; exact h0
    · by_cases e : i = si n l.num
      · subst e
        rw [ofs_repl_same, repl_len]; exact h0
      · rw [ofs_repl_other _ _ e]; exact h0
  · exact h0
theorem Fits.nil (h : 0 ≤ ways) : Fits n ways [] := fun _ _ => by simpa [ofs] using h
def allL (n : Nat) (L : List Ln) : List Ln := (List.range n).flatMap (ofs n L)
theorem filter_len : ∀ (m : Nat) (L : List Ln), ((List.range m).flatMap fun i => L.filter (inSet n i)).length = (L.filter fun x => decide (si n x.num < m)).length
  | 0, L => by
    have : (L.filter fun x => decide (si n x.num < 0)) = [] := List.filter_eq_nil_iff.2 fun x _ => by simp
    rw [this]
    rfl
  | m + 1, L => by
    rw [List.range_succ, List.flatMap_append, List.length_append, filter_len m L]
    simp only [List.flatMap_cons, List.flatMap_nil, List.append_nil]
    induction L with
    | nil => rfl
    | cons x r ih =>
      by_cases h1 : si n x.num = m
      · rw [List.filter_cons_of_pos (p := inSet n m) (by simpa [inSet] using h1), List.filter_cons_of_neg (by simp; omega), List.filter_cons_of_pos (p := fun x : Ln => decide (si n x.num < m + 1)) (by simp; omega), List.length_cons, List.length_cons]
        omega
      · rw [List.filter_cons_of_neg (p := inSet n m) (by simpa [inSet] using h1)]
        by_cases h2 : si n x.num < m
        · rw [List.filter_cons_of_pos (by simpa using h2), List.filter_cons_of_pos (p := fun x : Ln => decide (si n x.num < m + 1)) (by simp; omega), List.length_cons, List.length_cons]
          omega
        · rw [List.filter_cons_of_neg (by simpa using h2), List.filter_cons_of_neg (p := fun x : Ln => decide (si n x.num < m + 1)) (by simp; omega)]
          exact ih
theorem allL_len (hn : 0 < n) (L : List Ln) : (allL n L).length = L.length := by
  unfold allL
  have e : (ofs n L) = fun i => L.filter (inSet n i) := rfl
  rw [e, filter_len n L, List.filter_eq_self.2]
  intro x _
  simpa using si_lt hn
end
def pickAt (pick : Int) (n : Nat) : Nat := (Int.tmod (Int.tmod pick n + n) n).toNat
def vicL (n : Nat) (ways : Int) (L : List Ln) (num pick : Int) : Option Ln :=
  if getN L num = none ∧ ways ≤ ((ofs n L (si n num)).length : Int) then some ((ofs n L (si n num)).getD (pickAt pick (ofs n L (si n num)).length) ln0) else none
def andI (sets : Int) : Int := IntKind.i64.wrap (BitVec.ofInt IntKind.i64.bits sets &&& BitVec.ofInt IntKind.i64.bits (sets - 1)).toNat
def pow2 (sets : Int) : Bool := decide (sets = 1) || decide (sets = 2) || decide (sets = 4) || decide (sets = 8) || decide (sets = 16) || decide (sets = 32) || decide (sets = 64)
def rightB (sets ways : Int) : Bool := pow2 sets && decide (1 ≤ ways) && decide (ways ≤ 8)
theorem andI_all : ∀ k : _root_.Fin 65, 1 ≤ k.1 → (decide (andI (k.1 : Int) = 0) = pow2 (k.1 : Int)) := by decide +kernel
theorem andI_iff {sets : Int} (h : 1 ≤ sets ∧ sets ≤ 64) : (andI sets = 0 ↔ pow2 sets = true) := by
  have := andI_all ⟨sets.toNat, by omega⟩ (show 1 ≤ sets.toNat by omega)
  simp only [] at this
  rw [show ((sets.toNat : Nat) : Int) = sets by omega] at this
  rw [← this]
  simp
theorem right_yes {sets ways : Int} (h : rightB sets ways = true) : ¬ sets < 1 ∧ ¬ 64 < sets ∧ ¬ andI sets ≠ 0 ∧ ¬ ways < 1 ∧ ¬ 8 < ways := by
  unfold rightB at h
  simp only [Bool.and_eq_true, decide_eq_true_eq] at h
  obtain ⟨⟨h1, h2⟩, h3⟩ := h
  have h4 : 1 ≤ sets ∧ sets ≤ 64 := by simp [pow2] at h1; omega
  exact ⟨by omega, by omega, fun hn => hn ((andI_iff h4).2 h1), by omega, by omega⟩
theorem right_no {sets ways : Int} (h : rightB sets ways = false) (h1 : ¬ sets < 1) (h2 : ¬ 64 < sets) (h3 : ¬ andI sets ≠ 0) (h4 : ¬ ways < 1) (h5 : ¬ 8 < ways) : False := by
  have h6 : pow2 sets = true := (andI_iff (by omega)).1 (Classical.not_not.1 h3)
  simp [rightB, h6] at h
  omega
theorem ofs_le {n i : Nat} (L : List Ln) : (ofs n L i).length ≤ L.length := List.length_filter_le _ _
end Go.Proofs.YtpfijldkkfiooaaGreatDoor
namespace Go.Proofs.YtpfijldkkfiooaaGreatDoor
open Go
structure Row where
  A : Option Addr
  cap : Nat
  l : List Ln
def Row.val (r : Row) : Value := .slice r.A r.l.length r.cap
def rowC (r : Row) : Ck := .hp (own lnE r.A r.cap r.l)
def linesC (b n : Nat) (ways : Int) (L : List Ln) : HP := fun h => 0 < n ∧ n ≤ 64 ∧ ∃ (g : Nat) (rs : List Row), rs.length = n ∧ (∀ j r, rs[j]? = some r → r.l = ofs n L j) ∧ Sep (.blk b 224 [.slice (some ⟨g, 0, none⟩) n n, .int .i64 ways] :: .blk g 79 (rs.map Row.val) :: rs.map rowC) h
theorem nth_map {α β : Type} (f : α → β) {l : List α} {i : Nat} {x : α} (h : l[i]? = some x) : nth (l.map f) i = some (f x) := by
  rw [nth_eq, List.getElem?_map, h]
  rfl
theorem put_map {α β : Type} (f : α → β) {l : List α} {i : Nat} (y : α) (h : i < l.length) : put (l.map f) i (f y) = some ((l.set i y).map f) := by
  rw [put_set _ _ _ (by simpa using h), List.map_set]
def Bk (b n i : Nat) (ways : Int) (L : List Ln) (g : Nat) (cells : List Value) (R : HP) : Prop := ∀ L' A' cap' cells', (∀ j, j < n → j ≠ i → ofs n L' j = ofs n L j) → put cells i (.slice A' (ofs n L' i).length cap') = some cells' → ∀ h, Sep [.blk b 224 [.slice (some ⟨g, 0, none⟩) n n, .int .i64 ways], .blk g 79 cells', .hp (own lnE A' cap' (ofs n L' i)), .hp R] h → linesC b n ways L' h
theorem lines_op {b n : Nat} {ways : Int} {L : List Ln} (i : Nat) (hi : 0 < n → i < n) : Op_ (linesC b n ways L) fun K => 0 < n → n ≤ 64 → i < n → ∀ g cells A cap R, nth cells i = some (.slice A (ofs n L i).length cap) → cells.length = n → Bk b n i ways L g cells R → K [.blk b 224 [.slice (some ⟨g, 0, none⟩) n n, .int .i64 ways], .blk g 79 cells, .hp (own lnE A cap (ofs n L i)), .hp R] := .mk fun G k h hh => by
  obtain ⟨hn, hn64, g, rs, hl, hr, hs⟩ := hh
  have hi := hi hn
  have hir : i < rs.length := by omega
  have hri : rs[i]? = some rs[i] := gE hir
  have hri' := hr i _ hri
  have h1 := nth_map rowC hri
  obtain ⟨M, hM, _⟩ := Sep.at_ h1 (put_map rowC rs[i] hir)
  have hk := k hn hn64 hi g (rs.map Row.val) rs[i].A rs[i].cap (Sep M) (by
    have := nth_map Row.val hri
    rw [this]
    unfold Row.val
    rw [hri']) (by simpa using hl) (by
    intro L' A' cap' cells' ho hp h hs'
    have hp' := put_map Row.val (⟨A', cap', ofs n L' i⟩ : Row) hir
    rw [show Row.val ⟨A', cap', ofs n L' i⟩ = .slice A' (ofs n L' i).length cap' from rfl] at hp'
    have := hp.symm.trans hp'
    cases this
    obtain ⟨M', hM', hback⟩ := Sep.at_ h1 (put_map rowC (⟨A', cap', ofs n L' i⟩ : Row) hir)
    have : M' = M := by
      rw [hM] at hM'
      cases hM'
      rfl
    subst this
    refine ⟨hn, hn64, g, rs.set i ⟨A', cap', ofs n L' i⟩, by simpa using hl, ?_, ?_⟩
    · intro j r hj
      by_cases hji : j = i
      · subst hji
        rw [List.getElem?_set_self hir] at hj
        cases hj
        rfl
      · rw [List.getElem?_set_ne (Ne.symm hji)] at hj
        have hjn : j < n := by
          have := (List.getElem?_eq_some_iff.1 hj).1
          omega
        rw [ho j hjn hji]
        exact hr j r hj
    · refine hs'.mapTl fun h hs => hs.mapTl fun h hs => hback h ?_
      refine hs.mapTl fun h hs => ?_
      have := Sep.flat hs
      simpa using this)
  refine ⟨_, hk, ?_⟩
  refine hs.mapTl fun h hs => hs.mapTl fun h hs => ?_
  have := Sep.pick hM hs
  refine Sep.hd (p := rowC rs[i]) ?_ fun h hh => ?_
  · refine this.mapTl fun h hs => ?_
    have hs2 : Sep (M ++ []) h := by simpa using hs
    exact hs2.unflat
  · show own lnE rs[i].A rs[i].cap (ofs n L i) h
    rw [← hri']
    exact hh
theorem put_same {α : Type} : ∀ {l : List α} {i : Nat} {x : α}, nth l i = some x → put l i x = some l
  | [], _, _, h => by cases h
  | a :: l, 0, x, h => by
    cases h
    rfl
  | a :: l, i + 1, x, h => by
    have := put_same (l := l) (i := i) (x := x) h
    unfold Go.Proofs.YtpfijldkkfiooaaGreatDoor.put
    rw [this]
theorem Bk.same {b n i g : Nat} {ways : Int} {L : List Ln} {cells : List Value} {R : HP} {A : Option Addr} {cap : Nat} (h : Bk b n i ways L g cells R) (hc : nth cells i = some (.slice A (ofs n L i).length cap)) : ∀ h, Sep [.blk b 224 [.slice (some ⟨g, 0, none⟩) n n, .int .i64 ways], .blk g 79 cells, .hp (own lnE A cap (ofs n L i)), .hp R] h → linesC b n ways L h := h L A cap cells (fun _ _ _ => rfl) (put_same hc)
end Go.Proofs.YtpfijldkkfiooaaGreatDoor
namespace Go.Proofs.YtpfijldkkfiooaaGreatDoor
open Go
set_option maxRecDepth 4000
theorem c124 (b n : Nat) (ways : Int) (G : Option Addr) (h0 : ways ≠ 0 := by assumption) : Sp Tryz.prog 124 [.pointer (some ⟨b, 0, none⟩)] [.blk b 224 [.slice G n n, .int .i64 ways]] fun K => K (.returned (.bool false)) [.blk b 224 [.slice G n n, .int .i64 ways]] := by
  refine Zen Tryz.func124 rfl rfl rfl fun e X Φ hS => Zsr <| Zv (ya rfl) <| Znl <| Znx <| Zsr <| Zv (ym rfl) <| Zv (ypeq rfl rfl rfl) <| Zv (ym rfl) <| Zg rfl rfl ?_
  refine Zv (ym rfl) <| Zg rfl rfl <| Zv (yn rfl) <| Zg rfl rfl <| Zv (yf 1 rfl) <| Zg rfl rfl <| Zv (yd 0 rfl rfl rfl) <| Zg rfl rfl <| Zv (yeq rfl rfl) <| Zv (ypf rfl rfl) ?_
  refine Zv (ya rfl) <| Znl <| Znx <| Zrt <| Zre (.t rfl .n) hS [0] 0 ?_ rfl rfl rfl
  simp [pk, h0]
theorem c235 (x : Ln) (b3 : Nat) (num : Int) : Sp Tryz.prog 235 [.agg (lnE.arr x), .pointer (some ⟨b3, 0, none⟩)] [.blk b3 40 [.int .u32 num]] fun K => K (.returned (.bool (decide (x.num = num)))) [.blk b3 40 [.int .u32 num]] := by
  refine Zen Tryz.func235 rfl rfl rfl fun e X Φ hS => Zsr <| Ze (ebxE rfl) fun b2 => Zw <| Zv (ya rfl) <| Znl <| Znx <| Zsr <| Zv (yf 0 rfl) <| Zv (yd 0 rfl rfl rfl) <| Zv (yd 1 rfl rfl rfl) ?_
  refine Zv (yeq rfl rfl) <| Zv (ya rfl) <| Znl <| Znx <| Zrt <| Zre (.t rfl .n) hS [1] 1 rfl rfl rfl rfl
theorem c234 (c : Ck) (A : Option Addr) (cap b3 : Nat) (l : List Ln) (num : Int) (hR : Rd lnE c A cap l) (hl : l.length ≤ 1048576) : Sp Tryz.prog 234 [.slice A l.length cap, .func (.func 235) #[] #[.pointer (some ⟨b3, 0, none⟩)]] [c, .blk b3 40 [.int .u32 num]] fun K => K (.returned (.int .i64 (fndI l num))) [c, .blk b3 40 [.int .u32 num]] := by
  refine Zen Tryz.func234 rfl rfl rfl fun e X Φ hS => Zsr <| Zv (ya rfl) <| Znl <| Znx <| Zsq <| Zsr <| Zv (ym rfl) <| Zv (sl_of ⟨_, Tryz.underlying79⟩ rfl) <| Zv (ym rfl) ?_
  refine Znl <| Znx <| Zbl ?_
  refine Zlq (ι := { i : Nat // i ≤ l.length ∧ ∀ j, j < i → ¬ (l.getD j ln0).num = num }) (fun i => [(8, .int .i64 (i.1 : Int)), (7, .int .i64 (l.length : Int)), (0, .slice A l.length cap), (1, .func (.func 235) #[] #[.pointer (some ⟨b3, 0, none⟩)])]) (fun _ => [c, .blk b3 40 [.int .u32 num]]) (fun i => l.length - i.1) ⟨0, by omega, fun j hj => by omega⟩ ⟨rfl, rfl, rfl, rfl, trivial⟩ [0, 0] rfl fun i => Zsr <| Zv (ylt rfl rfl) <| Znl <| Znx <| Zsq <| Zif rfl (fun h9 => ?_) (fun h9 => ?_)
  refine Zsk <| Znx <| Zsq <| Zbl <| Zsr <| Zv (ym rfl) <| Zv (ya rfl) <| Znl <| Znx <| Zsr ?_
  refine Zv (ym rfl) <| Zv (ym rfl) <| Zv (ym rfl) <| Zv (yea 0 hR rfl rfl rfl (by first | assumption | omega) rfl Tryz.underlying79 rfl) <| Zv (yel 0 hR rfl (gE (by first | assumption | omega)) rfl rfl rfl) <| Zkv (c235 ..) [1] rfl rfl rfl rfl <| Zq <| Znl <| Znx <| Zif rfl (fun h16 => ?_) (fun h16 => ?_)
  refine Zsr <| Zv (ym rfl) <| Zv (ya rfl) <| Znl <| Znx <| Zrt <| Zr2 <| Zr1 <| Zr1 <| Zr2 ?_
  refine Zr1 <| Zre (.t rfl .n) hS [1,0] 0 ?_ rfl rfl rfl
  rotate_left
  refine Zsk <| Zxn <| Znx <| Zrg <| Zv (yadd rfl rfl (i64w rfl (by omega))) <| Zv (ym rfl) <| Znl ?_
  rotate_left
  refine Zex <| Zxt <| Zxt <| Zxx <| Znx <| Zsr <| Zv (ya rfl) <| Znl <| Znx <| Zrt ?_
  refine Zre (.t rfl .n) hS [0,0] 0 ?_ rfl rfl rfl
  rotate_left
  · have hlt : i.1 < l.length := by omega
    have e1 : l.getD i.1 ln0 = l[i.1] := by simp [List.getD, hlt]
    rw [fnd_yes hlt (by rw [e1]; exact h16) i.2.2]
    rfl
  · have hlt : i.1 < l.length := by omega
    have e1 : l.getD i.1 ln0 = l[i.1] := by simp [List.getD, hlt]
    refine Zlr ⟨i.1 + 1, by omega, fun j hj => ?_⟩ (by show l.length - (i.1 + 1) < l.length - i.1; omega) ⟨rfl, rfl, rfl, rfl, trivial⟩ [1, 0] 0 rfl rfl
    by_cases hji : j = i.1
    · rw [hji, e1]; exact h16
    · exact i.2.2 j (by omega)
  · have hlt : i.1 = l.length := by have := i.2.1; omega
    rw [fnd_no fun j hj => i.2.2 j (by omega)]
    rfl
theorem c202 (b n g cap : Nat) (ways num : Int) (L : List Ln) (cells : List Value) (A : Option Addr) (h0 : 0 < n) (h1 : n ≤ 64) (hn : 0 ≤ num ∧ num < 4294967296) (hl : (ofs n L (si n num)).length ≤ 1048576) (hc : nth cells (si n num) = some (.slice A (ofs n L (si n num)).length cap)) (hcl : cells.length = n) : Sp Tryz.prog 202 [.pointer (some ⟨b, 0, none⟩), .int .u32 num] [.blk b 224 [.slice (some ⟨g, 0, none⟩) n n, .int .i64 ways], .blk g 79 cells, .hp (own lnE A cap (ofs n L (si n num)))] fun K => K (.returned (.tuple #[.pointer (some ⟨g, si n num, none⟩), .int .i64 (fndI (ofs n L (si n num)) num)])) [.blk b 224 [.slice (some ⟨g, 0, none⟩) n n, .int .i64 ways], .blk g 79 cells, .hp (own lnE A cap (ofs n L (si n num)))] := by
  have hi : si n num < n := si_lt h0
  have he : num.tmod (n : Int) = ((si n num : Nat) : Int) := by
    unfold si
    rw [Int.tmod_eq_emod_of_nonneg hn.1]
    have := Int.emod_nonneg num (show (n : Int) ≠ 0 by omega)
    omega
  refine Zen Tryz.func202 rfl rfl rfl fun e X Φ hS => Zsr <| Ze (ebx rfl) fun b3 => Zw <| Zv (ya rfl) <| Zv (ya rfl) <| Znl <| Znx <| Zsq <| Zhd [] rfl rfl <| Zht 0 rfl (ym rfl) ?_
  refine Zht 1 rfl (yn rfl) <| Zht 2 rfl (yf 0 rfl) <| Zht 3 rfl (yd 1 rfl rfl rfl) <| Zht 4 rfl (yd 0 rfl rfl rfl) <| Zht 5 rfl (ym rfl) <| Zht 6 rfl (yn rfl) <| Zht 7 rfl (yf 0 rfl) <| Zht 8 rfl (yd 1 rfl rfl rfl) <| Zht 9 rfl (sl_of ⟨_, Tryz.underlying222⟩ rfl) <| Zht 10 rfl (ycv Tryz.underlying3 Tryz.underlying40 rfl (u32w rfl (by omega))) ?_
  refine Zht 11 rfl (yrem rfl rfl (by omega) rfl) ?_
  rw [he]
  refine Zht 12 rfl (yeb (s := 1) (si n num) Tryz.underlying222 rfl rfl hi (by omega)) <| Zht 13 rfl (ya rfl) <| Zhn (by kernel_rfl) <| Znx <| Zsr <| Zv (ym rfl) <| Zv (yn rfl) ?_
  refine Zv (yd 2 rfl rfl hc) <| Zv (yfn rfl rfl) ?_
  refine Zk (c234 _ A cap b3 (ofs n L (si n num)) num own.rd hl) [3,0] rfl rfl <| Zq <| Zv (ya rfl) <| Znl <| Znx <| Zrt <| Zre (.t rfl (.t rfl .n)) hS [2,2,0] 1 rfl rfl rfl rfl
theorem c146 (b n : Nat) (ways num : Int) (L : List Ln) (hw : ways ≠ 0) (hn : 0 ≤ num ∧ num < 4294967296) (hl : L.length ≤ 1048576) : Sp Tryz.prog 146 [.pointer (some ⟨b, 0, none⟩), .int .u32 num] [.hp (linesC b n ways L)] fun K => (∀ x, getN L num = some x → K (.returned (.tuple #[.agg (lnE.arr x), .bool true])) [.hp (linesC b n ways L)]) ∧ (getN L num = none → K (.returned (.tuple #[.agg (lnE.arr ln0), .bool false])) [.hp (linesC b n ways L)]) := by
  refine Zen Tryz.func146 rfl rfl rfl fun e X Φ hS => Zoc 0 (lines_op (si n num) si_lt) rfl <| fun h0 h64 hi g cells A cap R hc hcl hB => Zsr <| Ze (eal z145) fun b4 => Zw <| Zv (ya rfl) <| Znl <| Znx <| Zsq <| Zsr <| Zv (ym rfl) <| Zk (c124 ..) [1] rfl rfl ?_
  refine Zq <| Znl <| Znx <| Zcf rfl <| Zsk <| Znx <| Zsr <| Zv (ym rfl) <| Zv (ym rfl) ?_
  have hlo : (ofs n L (si n num)).length ≤ 1048576 := Nat.le_trans (List.length_filter_le _ _) hl
  have hg := ofs_get (n := n) L num
  rcases fnd_spec (ofs n L (si n num)) num with ⟨hf, hall⟩ | ⟨k, hf, hk, hx, hall⟩
  · have h2 := (hg.symm.trans (fnd_none ⟨hf, hall⟩))
    refine Zk (c202 b n g cap ways num L cells A h0 h64 hn hlo hc hcl) [0,1,1] rfl rfl <| Zq <| Zv (ym rfl) <| Zv (yx rfl rfl) <| Zv (yx rfl rfl) <| Zv (ya rfl) <| Zv (ya rfl) <| Znl <| Znx <| Zsq ?_
    refine Zsr <| Zv (ym rfl) <| Zv (ylt rfl rfl) <| Znl <| Znx <| Zct' rfl (decide_eq_true (by omega)) <| Zrt <| Zr1 ?_
    refine Zfx [0,0,0,1] (hB.same hc) rfl ?_
    refine Zre (.wh 1 (m := 18) rfl rfl rfl (.t rfl .n)) (hS.2 h2) [0] 1 rfl rfl rfl rfl
  · have h2 := hg.symm.trans (get_at hk hx hall)
    refine Zk (c202 b n g cap ways num L cells A h0 h64 hn hlo hc hcl) [0,1,1] rfl rfl <| Zq <| Zv (ym rfl) <| Zv (yx rfl rfl) <| Zv (yx rfl rfl) <| Zv (ya rfl) <| Zv (ya rfl) <| Znl <| Znx <| Zsq ?_
    refine Zsr <| Zv (ym rfl) <| Zv (ylt rfl rfl) <| Znl <| Znx <| Zcf' rfl (decide_eq_false (by omega)) <| Zsk <| Znx <| Zsr <| Zv (ym rfl) ?_
    refine Zv (yn rfl) ?_
    rw [hf]
    have e1 : (ofs n L (si n num)).getD k ln0 = (ofs n L (si n num))[k] := by simp [List.getD, hk]
    rw [e1] at h2
    refine Zv (yd 1 rfl rfl hc) <| Zv (ym rfl) <| Zv (yea 2 own.rd rfl rfl rfl (by first | assumption | omega) rfl Tryz.underlying79 rfl) <| Zv (yel 2 own.rd rfl (gE (by first | assumption | omega)) rfl rfl rfl) <| Ze (esw 3 (m := 18) rfl rfl rfl rfl rfl (Enc.len ..) (Enc.allL ..)) <| Zw0 <| Zv (ya rfl) <| Znl <| Znx <| Zrt ?_
    refine Zfx [0,0,0,1] (hB.same hc) rfl ?_
    refine Zre (.wh 1 (m := 18) rfl rfl (Enc.len ..) (.t rfl .n)) (hS.1 _ h2) [0] 1 rfl rfl rfl rfl
end Go.Proofs.YtpfijldkkfiooaaGreatDoor
namespace Go.Proofs.YtpfijldkkfiooaaGreatDoor
open Go
set_option maxRecDepth 4000
theorem c223 (b n : Nat) (ways : Int) (L : List Ln) (l : Ln) (hw : ways ≠ 0) (hl : L.length ≤ 1000000) : Sp Tryz.prog 223 [.pointer (some ⟨b, 0, none⟩), .agg (lnE.arr l)] [.hp (linesC b n ways L)] fun K => K (.returned (.int .i64 (putE n ways L l))) [.hp (linesC b n ways (putL n ways L l))] := by
  refine Zen Tryz.func223 rfl rfl rfl fun e X Φ hS => Zoc 0 (lines_op (si n l.num) si_lt) rfl <| fun h0 h64 hi g cells A cap R hc hcl hB => Zsr <| Ze (ebxE rfl) fun b3 => Zw <| Zv (ya rfl) <| Znl <| Znx <| Zsq <| Zsr <| Zv (ym rfl) <| Zk (c124 ..) [1] rfl rfl ?_
  refine Zq <| Znl <| Znx <| Zcf rfl <| Zsk <| Znx <| Zsq <| Zsr <| Zv (yf 1 rfl) <| Zv (yd 1 rfl rfl rfl) ?_
  refine Zv (ylt rfl rfl) <| Zv (ym rfl) <| Zgs rfl rfl (fun h12 => ?_) (fun h12 => ?_)
  refine Zu' rfl rfl (decide_eq_true h12) rfl <| Zu' rfl rfl (decide_eq_true h12) rfl <| Zu' rfl rfl (decide_eq_true h12) rfl <| Zv (ypt' rfl (decide_eq_true h12) rfl) <| Znl <| Znx <| Zct rfl <| Zsr <| Zv (ya rfl) <| Znl ?_
  refine Znx <| Zrt <| Zr1 ?_
  rotate_left
  refine Zg' rfl rfl (decide_eq_false h12) <| Zv (yf 1 rfl) <| Zg' rfl rfl (decide_eq_false h12) <| Zv (yd 1 rfl rfl rfl) <| Zg' rfl rfl (decide_eq_false h12) <| Zv (ygt rfl rfl) <| Zv (ypf' rfl (decide_eq_false h12) rfl) <| Znl <| Znx <| Zif rfl (fun h16 => ?_) (fun h16 => ?_)
  refine Zsr <| Zv (ya rfl) <| Znl <| Znx <| Zrt <| Zr1 ?_
  rotate_left
  refine Zsk <| Znx <| Zsr <| Zv (ym rfl) <| Zv (yf 0 rfl) <| Zv (yd 1 rfl rfl rfl) ?_
  rotate_left
  · have he : putE n ways L l = 2 := if_pos (by simp [okS]; omega)
    have hp : putL n ways L l = L := if_neg (by rw [he]; decide)
    rw [he, hp] at hS
    refine Zfx [0,1,1,1] (hB.same hc) rfl <| Zre (.t rfl .n) hS [0] 1 rfl rfl rfl rfl
  · have he : putE n ways L l = 2 := if_pos (by simp [okS]; omega)
    have hp : putL n ways L l = L := if_neg (by rw [he]; decide)
    rw [he, hp] at hS
    refine Zfx [0,1,1,1] (hB.same hc) rfl <| Zre (.t rfl .n) hS [0] 1 rfl rfl rfl rfl
  · have hn := l.hn
    have hok : okS l = true := by simp [okS]; omega
    have hlo : (ofs n L (si n l.num)).length ≤ 1048576 := Nat.le_trans (ofs_le L) (by omega)
    have hg := ofs_get (n := n) L l.num
    rcases fnd_spec (ofs n L (si n l.num)) l.num with ⟨hf, hall⟩ | ⟨k, hf, hk, hx, hall⟩
    · have h2 := (hg.symm.trans (fnd_none ⟨hf, hall⟩))
      refine Zk (c202 b n g cap ways l.num L cells A h0 h64 hn hlo hc hcl) [0,1,1] rfl rfl <| Zq <| Zv (ym rfl) <| Zv (yx rfl rfl) <| Zv (yx rfl rfl) <| Zv (ya rfl) <| Zv (ya rfl) <| Znl <| Znx <| Zsq ?_
      refine Zbl <| Zsr <| Zv (ym rfl) <| Zv (yge rfl rfl) <| Zv (ya rfl) <| Znl <| Znx <| Zcf' rfl (decide_eq_false (by omega)) <| Zsq <| Zhd [] rfl rfl ?_
      refine Zht 0 rfl (ym rfl) <| Zht 1 rfl (yn rfl) <| Zht 2 rfl (yd 1 rfl rfl hc) <| Zht 3 rfl (sl_of ⟨_, Tryz.underlying79⟩ rfl) <| Zht 4 rfl (ym rfl) <| Zht 5 rfl (yn rfl) <| Zht 6 rfl (yf 1 rfl) <| Zht 7 rfl (yd 0 rfl rfl rfl) <| Zht 8 rfl (yge rfl rfl) <| Zht 9 rfl (ya rfl) ?_
      refine Zhn (by kernel_rfl) <| Znx <| Zif rfl (fun h41 => ?_) (fun h41 => ?_)
      refine Zsr <| Zv (ya rfl) <| Znl <| Znx <| Zrt <| Zr2 <| Zr1 ?_
      rotate_left
      rotate_left
      · have he : putE n ways L l = 200 := by unfold putE; rw [hok, h2, if_neg (by simp), if_pos ⟨rfl, h41⟩]
        have hp : putL n ways L l = L := if_neg (by rw [he]; decide)
        rw [he, hp] at hS
        refine Zfx [0,0,0,1] (hB.same hc) rfl <| Zre (.t rfl .n) hS [0] 1 rfl rfl rfl rfl
      · have he : putE n ways L l = 0 := by unfold putE; rw [hok, h2, if_neg (by simp), if_neg fun h => h41 h.2]
        have hp : putL n ways L l = L ++ [l] := by unfold putL; rw [if_pos he, if_pos h2]
        rw [he, hp] at hS
        refine Zhf 7 [2] rfl rfl <| Zht 0 rfl (ym rfl) <| Zht 1 rfl (ym rfl) <| Zht 2 rfl (yn rfl) <| Zht 3 rfl (yd 1 rfl rfl hc) <| Zht 4 rfl (ydw 2 (m := 18) rfl rfl (Enc.len ..)) ?_
        refine Zh1 5 (by kernel_rfl) <| Zoe rfl (eb1 elLn (by decide) rfl) <| fun B => Zwh 2 rfl ?_
        have hm : (ofs n L (si n l.num)).length + [l].length ≤ maxLen := by
          show (ofs n L (si n l.num)).length + 1 ≤ maxLen
          exact Nat.le_trans (Nat.succ_le_succ hlo) (by decide)
        refine Zh1 6 (by kernel_rfl) <| Zoe rfl (eap' 1 0 elLn rfl rfl rfl own.rd rfl rfl rfl (fun _ _ => rfl) (by simp; omega) hm) <| fun A' cap' => Zwh 2 rfl <| Zhn (by kernel_rfl) <| Ztl rfl <| Ztv (yn rfl) ?_
        obtain ⟨cells', hput⟩ : ∃ cells', put cells (si n l.num) (.slice A' (ofs n L (si n l.num) ++ [l]).length cap') = some cells' := ⟨_, put_set _ _ _ (by omega)⟩
        refine Zte (es 3 rfl rfl rfl hput rfl) <| Ztw <| Ztn <| Zxn <| Znx <| Zsr <| Zv (ya rfl) <| Znl <| Znx <| Zrt ?_
        rw [← ofs_snoc_same] at hput ⊢
        refine Zfx [2,2,1,2] (hB (L ++ [l]) A' cap' cells' (fun j _ hne => ofs_snoc_other L l hne) hput) rfl <| Zre (.t rfl .n) hS [0] 2 rfl rfl rfl rfl
    · have h2 := hg.symm.trans (get_at hk hx hall)
      have he : putE n ways L l = 0 := by unfold putE; rw [hok, h2]; simp
      have hp : putL n ways L l = repl l L := by unfold putL; rw [he, h2]; simp
      have hs := set_at (l := l) hk hx hall
      rw [he, hp] at hS
      refine Zk (c202 b n g cap ways l.num L cells A h0 h64 hn hlo hc hcl) [0,1,1] rfl rfl <| Zq <| Zv (ym rfl) <| Zv (yx rfl rfl) <| Zv (yx rfl rfl) <| Zv (ya rfl) <| Zv (ya rfl) <| Znl <| Znx <| Zsq ?_
      refine Zbl <| Zsr <| Zv (ym rfl) <| Zv (yge rfl rfl) <| Zv (ya rfl) <| Znl <| Znx <| Zct' rfl (decide_eq_true (by omega)) <| Zhe 6 rfl <| Zht 0 rfl (ym rfl) ?_
      refine Zht 1 rfl (yn rfl) <| Zht 2 rfl (yd 1 rfl rfl hc) <| Zht 3 rfl (ym rfl) <| Zht 4 rfl (ydw 3 (m := 18) rfl rfl (Enc.len ..)) ?_
      rw [hf]
      refine Zht 5 rfl (yea 2 own.rd rfl rfl rfl (by first | assumption | omega) rfl Tryz.underlying79 rfl) <| Zhn (by kernel_rfl) <| Ztl rfl <| Zte (ese 2 _ rfl rfl rfl (by first | assumption | omega) rfl rfl (by kernel_rfl)) <| Ztw <| Ztn <| Zxn <| Znx <| Zsr <| Zv (ya rfl) <| Znl ?_
      refine Znx <| Zrt ?_
      rw [hs, ← ofs_repl_same]
      have hlen : (ofs n (repl l L) (si n l.num)).length = (ofs n L (si n l.num)).length := by rw [ofs_repl_same, repl_len]
      refine Zfx [0,0,0,1] (hB (repl l L) A cap cells (fun j _ hne => ofs_repl_other L l hne) (by rw [hlen]; exact put_same hc)) rfl <| Zre (.t rfl .n) hS [0] 1 rfl rfl rfl rfl
end Go.Proofs.YtpfijldkkfiooaaGreatDoor
namespace Go.Proofs.YtpfijldkkfiooaaGreatDoor
open Go
set_option maxRecDepth 4000
def imgC (b : Nat) (l : List Int) : HP := fun h => 0 < l.length ∧ ∃ g o cap, Sep [.blk b 149 [.slice (some ⟨g, o, none⟩) l.length cap], .hp (own u8E (some ⟨g, o, none⟩) cap l)] h
theorem img_op {b : Nat} {l : List Int} : Op_ (imgC b l) fun K => 0 < l.length → ∀ g o cap, l.length ≤ cap → K [.blk b 149 [.slice (some ⟨g, o, none⟩) l.length cap], .hp (own u8E (some ⟨g, o, none⟩) cap l)] := .mk fun G k h hh => by
  obtain ⟨h0, g, o, cap, hs⟩ := hh
  refine ⟨_, k h0 g o cap ?_, hs⟩
  obtain ⟨_, h2, _, e2, _, _, h3, _, _, _, _, hp, _⟩ := hs
  exact hp.1
theorem img_fold {b g o cap : Nat} {l : List Int} (h0 : 0 < l.length) : ∀ h, Sep [.blk b 149 [.slice (some ⟨g, o, none⟩) l.length cap], .hp (own u8E (some ⟨g, o, none⟩) cap l)] h → imgC b l h := fun _ hs => ⟨h0, g, o, cap, hs⟩
theorem img_foldn {b g o cap n : Nat} {l : List Int} (h0 : 0 < l.length) (hn : n = l.length) : ∀ h, Sep [.blk b 149 [.slice (some ⟨g, o, none⟩) n cap], .hp (own u8E (some ⟨g, o, none⟩) cap l)] h → imgC b l h := fun _ hs => ⟨h0, g, o, cap, hn ▸ hs⟩
theorem c57 (b : Nat) (l : List Int) : Sp Tryz.prog 57 [.pointer (some ⟨b, 0, none⟩)] [.hp (imgC b l)] fun K => K (.returned (.bool false)) [.hp (imgC b l)] := by
  refine Zen Tryz.func57 rfl rfl rfl fun e X Φ hS => Zsr <| Zv (ya rfl) <| Znl <| Znx <| Zsr <| Zv (ym rfl) <| Zv (ypeq rfl rfl rfl) <| Zv (ym rfl) <| Zg rfl rfl ?_
  refine Zv (ym rfl) <| Zg rfl rfl <| Zv (yn rfl) <| Zg rfl rfl <| Zv (yf 0 rfl) <| Zg rfl rfl ?_
  refine Zol 0 img_op rfl <| fun h0 g o cap hcp => Zv (yd 0 rfl rfl rfl) <| Zg rfl rfl <| Zv (ysleq ⟨_, Tryz.underlying23⟩ rfl rfl) <| Zv (ypf rfl rfl) <| Zv (ya rfl) <| Znl <| Znx <| Zrt ?_
  refine Zfx [0,0] (img_fold h0) rfl <| Zre (.t rfl .n) hS [0] 0 rfl rfl rfl rfl
theorem c58 (c : Ck) (g o cap : Nat) (l : List Int) (hR : Rd u8E c (some ⟨g, o, none⟩) cap l) (h0 : 0 < l.length) (hl : l.length ≤ 1048576) : Sp Tryz.prog 58 [.slice (some ⟨g, o, none⟩) l.length cap] [c] fun K => ∀ g' o' cap', K (.returned (.slice (some ⟨g', o', none⟩) l.length cap')) [.hp (own u8E (some ⟨g', o', none⟩) cap' l), c] := by
  refine Zen Tryz.func58 rfl rfl rfl fun e X Φ hS => Zsr <| Zv (ya rfl) <| Znl <| Znx <| Zsq <| Zsr <| Zv (ym rfl) <| Zv (ysleq ⟨_, Tryz.underlying23⟩ rfl rfl) <| Znl ?_
  refine Znx <| Zcf rfl <| Zsk <| Znx <| Zsr ?_
  refine Ze (eb0 elU8) <| fun A => Zw <| Zv (ym rfl) ?_
  have hm : ([] : List Int).length + l.length ≤ maxLen := ml_le (by simp; omega)
  refine Ze (eap' 0 1 elU8 rfl rfl rfl hR rfl rfl rfl (fun _ _ => rfl) (by simp; omega) hm) <| fun A' cap' => Zw <| Zv (ya rfl) <| Znl <| Znx <| Zrt ?_
  refine Zox 0 (own_some h0) rfl <| fun g' o' e1 => ?_
  subst e1
  refine Zre (.t rfl .n) (hS g' o' cap') [0,0] 0 rfl rfl rfl rfl
theorem c21 (b : Nat) (l : List Int) (hl : l.length ≤ 1048576 := by assumption) : Sp Tryz.prog 21 [.pointer (some ⟨b, 0, none⟩)] [.hp (imgC b l)] fun K => ∀ g' o' cap', K (.returned (.slice (some ⟨g', o', none⟩) l.length cap')) [.hp (imgC b l), .hp (own u8E (some ⟨g', o', none⟩) cap' l)] := by
  refine Zen Tryz.func21 rfl rfl rfl fun e X Φ hS => Zsr <| Zv (ya rfl) <| Znl <| Znx <| Zsq <| Zsr <| Zv (ym rfl) <| Zk (c57 ..) [0] rfl rfl <| Zq ?_
  refine Znl <| Znx <| Zcf rfl <| Zsk <| Znx <| Zsr <| Zv (ym rfl) <| Zv (yn rfl) <| Zv (yf 0 rfl) ?_
  refine Zol 0 img_op rfl <| fun h0 g o cap hcp => Zv (yd 0 rfl rfl rfl) ?_
  refine Zk (c58 _ g o cap l own.rd h0 hl) [1] rfl rfl <| fun g' => fun o' => fun cap' => Zq <| Zv (ya rfl) <| Znl <| Znx <| Zrt ?_
  refine Zfx [2,1] (img_fold h0) rfl ?_
  refine Zre (.t rfl .n) (hS g' o' cap') [0,0] 0 rfl rfl rfl rfl
theorem c74 (b : Nat) (l : List Int) : Sp Tryz.prog 74 [.pointer (some ⟨b, 0, none⟩)] [.hp (imgC b l)] fun K => K (.returned (.int .i64 (l.length : Int))) [.hp (imgC b l)] := by
  refine Zen Tryz.func74 rfl rfl rfl fun e X Φ hS => Zsr <| Zv (ya rfl) <| Znl <| Znx <| Zsq <| Zsr <| Zv (ym rfl) <| Zv (ypeq rfl rfl rfl) <| Znl ?_
  refine Znx <| Zcf rfl <| Zsk <| Znx <| Zsr <| Zv (ym rfl) <| Zv (yn rfl) <| Zv (yf 0 rfl) ?_
  refine Zol 0 img_op rfl <| fun h0 g o cap hcp => Zv (yd 0 rfl rfl rfl) <| Zv (sl_of ⟨_, Tryz.underlying23⟩ rfl) <| Zv (ya rfl) <| Znl <| Znx <| Zrt ?_
  refine Zfx [0,0] (img_fold h0) rfl <| Zre (.t rfl .n) hS [0] 0 rfl rfl rfl rfl
theorem c63 (b : Nat) (l : List Int) (h0 : 0 < l.length := by assumption) (hl : l.length ≤ 1048576 := by assumption) : Sp Tryz.prog 63 [.pointer (some ⟨b, 0, none⟩)] [.hp (imgC b l)] fun K => ∀ b', K (.returned (.pointer (some ⟨b', 0, none⟩))) [.hp (imgC b l), .hp (imgC b' l)] := by
  refine Zen Tryz.func63 rfl rfl rfl fun e X Φ hS => Zsr <| Zv (ya rfl) <| Znl <| Znx <| Zsq <| Zsr <| Zv (ym rfl) <| Zk (c57 ..) [0] rfl rfl <| Zq ?_
  refine Znl <| Znx <| Zcf rfl <| Zsk <| Znx <| Zsr <| Zv (ym rfl) <| Zk (c21 ..) [0] rfl rfl <| fun g' => fun o' => ?_
  refine fun cap' => Zq <| Zv (yb l149 rfl) <| Ze (ebx rfl) fun b8 => Zw <| Zv (ya rfl) <| Znl <| Znx <| Zrt ?_
  refine Zfx [0,1] (img_fold (b := b8) h0) rfl ?_
  refine Zre (.t rfl .n) (hS b8) [1,0] 0 rfl rfl rfl rfl
def szF (n : Int) : Bool := decide (n < 16) || decide (n > 4096) || decide (IntKind.i64.wrap (BitVec.ofInt 64 n &&& BitVec.ofInt 64 (n - 1)).toNat ≠ 0)
theorem c70 (n : Nat) : Sp Tryz.prog 70 [.int .i64 (n : Int)] [] fun K => (szF n = true → K (.returned (.tuple #[.pointer none, .int .i64 2])) []) ∧ (szF n = false → ∀ b, K (.returned (.tuple #[.pointer (some ⟨b, 0, none⟩), .int .i64 0])) [.hp (imgC b (List.replicate n 0))]) := by
  refine Zen Tryz.func70 rfl rfl rfl fun e X Φ hS => Zsr <| Zv (ya rfl) <| Zv (ya rfl) <| Znl <| Znx <| Zsq <| Zsr <| Zv (ym rfl) <| Zv (ylt rfl rfl) ?_
  refine Zv (ym rfl) <| Zgs rfl rfl (fun h6 => ?_) (fun h6 => ?_)
  refine Zu' rfl rfl (decide_eq_true h6) rfl <| Zu' rfl rfl (decide_eq_true h6) rfl <| Zv (ypt' rfl (decide_eq_true h6) rfl) <| Zv (ym rfl) <| Zu rfl rfl rfl <| Zu rfl rfl rfl <| Zu rfl rfl rfl <| Zu rfl rfl rfl <| Zu rfl rfl rfl <| Zv (ypt rfl rfl) ?_
  refine Znl <| Znx <| Zct rfl <| Zsr <| Zv (ya rfl) <| Zv (ya rfl) <| Znl <| Znx <| Zrt <| Zr1 ?_
  rotate_left
  refine Zg' rfl rfl (decide_eq_false h6) <| Zv (ym rfl) <| Zg' rfl rfl (decide_eq_false h6) <| Zv (ygt rfl rfl) <| Zv (ypf' rfl (decide_eq_false h6) rfl) <| Zv (ym rfl) <| Zgs rfl rfl (fun h10 => ?_) (fun h10 => ?_)
  refine Zu' rfl rfl (decide_eq_true h10) rfl <| Zu' rfl rfl (decide_eq_true h10) rfl <| Zu' rfl rfl (decide_eq_true h10) rfl <| Zu' rfl rfl (decide_eq_true h10) rfl <| Zu' rfl rfl (decide_eq_true h10) rfl <| Zv (ypt' rfl (decide_eq_true h10) rfl) <| Znl <| Znx <| Zct rfl <| Zsr ?_
  refine Zv (ya rfl) <| Zv (ya rfl) <| Znl <| Znx <| Zrt <| Zr1 ?_
  rotate_left
  refine Zg' rfl rfl (decide_eq_false h10) <| Zv (ym rfl) <| Zg' rfl rfl (decide_eq_false h10) <| Zv (ym rfl) <| Zg' rfl rfl (decide_eq_false h10) <| Zv (ysub rfl rfl (i64w rfl (by omega))) <| Zg' rfl rfl (decide_eq_false h10) <| Zv (yand rfl rfl rfl) <| Zg' rfl rfl (decide_eq_false h10) <| Zv (yne rfl rfl) ?_
  refine Zv (ypf' rfl (decide_eq_false h10) rfl) <| Znl <| Znx <| Zif rfl (fun h16 => ?_) (fun h16 => ?_)
  refine Zsr <| Zv (ya rfl) <| Zv (ya rfl) <| Znl <| Znx <| Zrt <| Zr1 ?_
  rotate_left
  refine Zsk <| Znx <| Zsr <| Zv (ym rfl) ?_
  rotate_left
  · refine Zre (.t rfl (.t rfl .n)) (hS.1 (by simp [szF, h6])) [] 0 rfl rfl rfl rfl
  · refine Zre (.t rfl (.t rfl .n)) (hS.1 (by simp [szF, h10])) [] 0 rfl rfl rfl rfl
  · have hz : szF n = true := by
      unfold szF
      rw [decide_eq_true (show IntKind.i64.wrap (BitVec.ofInt 64 (n : Int) &&& BitVec.ofInt 64 ((n : Int) - 1)).toNat ≠ 0 from h16), Bool.or_true]
    refine Zre (.t rfl (.t rfl .n)) (hS.1 hz) [] 0 rfl rfl rfl rfl
  · have hz : szF n = false := by
      unfold szF
      rw [decide_eq_false h6, decide_eq_false h10]
      exact decide_eq_false h16
    refine Ze (emks elU8 rfl rfl (by omega) (ml_le (by omega))) <| fun A => Zw <| Zv (yb l149 rfl) <| Ze (ebx rfl) fun b20 => Zw <| Zv (ya rfl) <| Zv (ya rfl) <| Znl <| Znx <| Zrt ?_
    have h0 : 0 < (List.replicate n (0 : Int)).length := by simp; omega
    refine Zox 1 (own_some h0) rfl <| fun g' o' e1 => ?_
    subst e1
    refine Zfx [1,0] (img_foldn (b := b20) h0 (by simp)) rfl ?_
    refine Zre (.t rfl (.t rfl .n)) (hS.2 hz b20) [0] 0 rfl rfl rfl rfl
theorem c31 (c : Ck) (A : Option Addr) (cap : Nat) (l : List Int) (hR : Rd u8E c A cap l) : Sp Tryz.prog 31 [.slice A l.length cap] [c] fun K => (szF l.length = true → K (.returned (.tuple #[.pointer none, .int .i64 2])) [c]) ∧ (szF l.length = false → ∀ b, K (.returned (.tuple #[.pointer (some ⟨b, 0, none⟩), .int .i64 0])) [.hp (imgC b l), c]) := by
  refine Zen Tryz.func31 rfl rfl rfl fun e X Φ hS => Zsr <| Zv (ya rfl) <| Zv (ya rfl) <| Znl <| Znx <| Zsr <| Zv (ym rfl) <| Zv (sl_of ⟨_, Tryz.underlying23⟩ rfl) <| Zk (c70 ..) [] rfl rfl ?_
  refine ⟨?_, ?_⟩
  refine fun a => Zq <| Zv (ym rfl) <| Zv (yx rfl rfl) <| Zv (yx rfl rfl) <| Zv (ya rfl) <| Zv (ya rfl) <| Znl <| Znx <| Zsq ?_
  refine Zsr <| Zv (ym rfl) <| Zv (yne rfl rfl) <| Znl <| Znx <| Zct rfl <| Zsr <| Zv (ym rfl) <| Zv (ya rfl) <| Zv (ya rfl) ?_
  refine Znl <| Znx <| Zrt <| Zr1 ?_
  rotate_left
  refine fun a => fun b => Zq <| Zv (ym rfl) <| Zv (yx rfl rfl) <| Zv (yx rfl rfl) <| Zv (ya rfl) <| Zv (ya rfl) <| Znl <| Znx ?_
  refine Zsq <| Zsr <| Zv (ym rfl) <| Zv (yne rfl rfl) <| Znl <| Znx <| Zcf rfl <| Zsk <| Znx <| Zsr ?_
  refine Zv (ym rfl) <| Zv (yn rfl) <| Zv (yf 0 rfl) ?_
  rotate_left
  · refine Zre (.t rfl (.t rfl .n)) (hS.1 a) [0] 0 rfl rfl rfl rfl
  · refine Zol 0 img_op rfl <| fun h0 g o cap' hcp => Zv (yd 0 rfl rfl rfl) <| Zv (ym rfl) ?_
    have hl : 0 < l.length := by simpa using h0
    refine Ze (ecp' 1 2 0 (l2 := l) (by simp) Tryz.underlying23 rfl rfl rfl hR rfl rfl (by simp) rfl hl (by simp) (fun _ _ h => h)) <| Zw <| Znl <| Znx <| Zsr <| Zv (ym rfl) <| Zv (ya rfl) <| Zv (ya rfl) <| Znl <| Znx <| Zrt ?_
    refine Zfx [0,0] (img_foldn (b := b) hl (by simp)) rfl ?_
    refine Zre (.t rfl (.t rfl .n)) (hS.2 a b) [0,0] 0 rfl rfl rfl rfl
end Go.Proofs.YtpfijldkkfiooaaGreatDoor
namespace Go.Proofs.YtpfijldkkfiooaaGreatDoor
open Go
set_option maxRecDepth 4000
theorem quo16 {n : Nat} (h : n ≤ 1048576) : IntKind.i64.wrap ((n : Int).tdiv 16) = ((n / 16 : Nat) : Int) := by
  rw [Int.tdiv_eq_ediv_of_nonneg (by omega)]
  exact i64w (by omega) (by omega)
theorem quo16u {n : Nat} (h : n ≤ 1048576) : IntKind.u32.wrap (IntKind.i64.wrap ((n : Int).tdiv 16)) = ((n / 16 : Nat) : Int) := by
  rw [quo16 h]
  exact u32w rfl (by omega)
theorem c104 (b : Nat) (l l2 : List Int) (k f : Nat) (p : Value) (Cp Cp' : Ck) (hl : l.length ≤ 1048576) (hk : k < 4294967296) (h2 : k < l.length / 16 → l2.length = l.length) (hok : callOk Tryz.prog f = true) (hc : k < l.length / 16 → ∀ g o cap, Sp Tryz.prog f [.slice (cutA (some ⟨g, o, none⟩) (k * 16 + 16) (k * 16) 1) 16 16, p] [.hp (own u8E (some ⟨g, o, none⟩) cap l), Cp] fun K => K (.returned (.tuple #[])) [.hp (own u8E (some ⟨g, o, none⟩) cap l2), Cp']) :
    Sp Tryz.prog 104 [.pointer (some ⟨b, 0, none⟩), .int .u32 (k : Int), .func (.func f) #[] #[p]] [.hp (imgC b l), Cp] fun K => (k < l.length / 16 → K (.returned (.int .i64 0)) [.hp (imgC b l2), Cp']) ∧ (l.length / 16 ≤ k → K (.returned (.int .i64 4)) [.hp (imgC b l), Cp]) := by
  have hq := quo16u hl
  refine Zen Tryz.func104 rfl rfl rfl fun e X Φ hS => Zsr <| Zv (ya rfl) <| Znl <| Znx <| Zsq <| Zbl <| Zsr <| Zv (ym rfl) <| Zk (c57 ..) [0] rfl rfl ?_
  refine Zq <| Zv (ya rfl) <| Znl <| Znx <| Zcf rfl <| Zsr <| Zv (ym rfl) <| Zv (ym rfl) <| Zv (yn rfl) <| Zv (yf 0 rfl) ?_
  refine Zol 0 img_op rfl <| fun h0 g o cap hcp => Zv (yd 0 rfl rfl rfl) <| Zv (sl_of ⟨_, Tryz.underlying23⟩ rfl) <| Zv (yquo rfl rfl (by decide) rfl) <| Zv (ycv Tryz.underlying3 Tryz.underlying40 rfl rfl) <| Zv (yge rfl rfl) <| Zv (ya rfl) <| Znl <| Znx <| Zif rfl (fun h11 => ?_) (fun h11 => ?_)
  refine Zsr <| Zv (ya rfl) <| Znl <| Znx <| Zrt <| Zr2 <| Zr1 ?_
  rotate_left
  refine Zsk <| Zxn <| Znx <| Zsr <| Zv (ym rfl) <| Zv (ycv Tryz.underlying40 Tryz.underlying3 rfl (i64w rfl (by omega))) <| Zv (ymul rfl rfl (i64w rfl (by omega))) <| Zv (ya rfl) <| Znl <| Znx ?_
  refine Zsr <| Zv (ym rfl) <| Zv (ym rfl) <| Zv (yn rfl) <| Zv (yf 0 rfl) <| Zv (yd 0 rfl rfl rfl) <| Zv (ym rfl) <| Zv (ym rfl) <| Zv (yadd rfl rfl (i64w rfl (by omega))) <| Zv (ym rfl) ?_
  refine Zv (yadd rfl rfl (i64w rfl (by omega))) ?_
  rotate_left
  · rw [hq] at h11
    refine Zfx [0,0] (img_fold h0) rfl ?_
    refine Zre (.t rfl .n) (hS.2 (by omega)) [0,0] 0 rfl rfl rfl rfl
  · rw [hq] at h11
    have hlt : k < l.length / 16 := by omega
    refine Zv (yslf (i := k * 16) (j := k * 16 + 16) (m := k * 16 + 16) 1 Tryz.underlying23 rfl rfl rfl rfl (by omega) (by omega) (by omega) (n1 := 16) (c1 := 16) (by omega) (by omega)) ?_
    refine Zkv (hc hlt g o cap) [1,1] rfl rfl rfl rfl <| Zq <| Znl <| Znx <| Zsr <| Zv (ya rfl) <| Znl <| Znx <| Zrt ?_
    refine Zfx [2,0] (img_foldn (b := b) (l := l2) (by have := h2 hlt; omega) (h2 hlt).symm) rfl ?_
    refine Zre (.t rfl .n) (hS.1 hlt) [0,0] 0 rfl rfl rfl rfl
def lineF (l : List Int) (k : Nat) : List Int := (l.take (k * 16 + 16)).drop (k * 16)
def setF (l : List Int) (k : Nat) (bs : List Int) : List Int := l.take (k * 16) ++ bs ++ l.drop (k * 16 + bs.length)
theorem c105 (b1 : Nat) (bs : List Int) (hb : bs.length = 16) (A : Option Addr) (cap k : Nat) (l : List Int) (hk : k < l.length / 16) : Sp Tryz.prog 105 [.slice (cutA A (k * 16 + 16) (k * 16) 1) 16 16, .pointer (some ⟨b1, 0, none⟩)] [.hp (own u8E A cap l), .blk b1 115 (bs.map (Value.int .u8))] fun K => K (.returned (.tuple #[])) [.hp (own u8E A cap (setF l k bs)), .blk b1 115 (bs.map (Value.int .u8))] := by
  have hR := Rd.arr (E := u8E) (b := b1) (tb := 115) (flat_int (TT := 5) (kk := .u8) bs) (ml_le (by omega))
  refine Zen Tryz.func105 rfl rfl rfl fun e X Φ hS => Zrg <| Zv (ym rfl) <| Zv (yarr Tryz.underlying115 rfl) ?_
  refine Ze (ecp' 0 1 (k * 16) rfl Tryz.underlying23 rfl rfl rfl hR rfl rfl hb.symm hb.symm (by omega) (by omega) (cutA_at (by omega))) <| Zw <| Znl <| Zee <| Zre .n hS [0,0] 0 rfl rfl rfl rfl
theorem line_len {l : List Int} {k : Nat} (h : k < l.length / 16) : (lineF l k).length = 16 := by
  unfold lineF
  simp
  omega
theorem set_len {l bs : List Int} {k : Nat} (h : k < l.length / 16) (hb : bs.length = 16) : (setF l k bs).length = l.length := by
  unfold setF
  simp
  omega
theorem c302 (b1 : Nat) (cs : List Value) (hc : cs.length = 16) (A : Option Addr) (cap k : Nat) (l : List Int) (hk : k < l.length / 16) : Sp Tryz.prog 302 [.slice (cutA A (k * 16 + 16) (k * 16) 1) 16 16, .pointer (some ⟨b1, 0, none⟩)] [.hp (own u8E A cap l), .blk b1 115 cs] fun K => K (.returned (.tuple #[])) [.hp (own u8E A cap l), .blk b1 115 ((lineF l k).map (Value.int .u8))] := by
  have hR := Rd.cut (i := k * 16) (j := k * 16 + 16) (own.rd (E := u8E) (A := A) (cap := cap) (l := l)) (by omega) (by omega)
  have hl := line_len hk
  refine Zen Tryz.func302 rfl rfl rfl fun e X Φ hS => Zrg <| Zv (yarr Tryz.underlying115 rfl) <| Zv (ym rfl) ?_
  refine Ze (eca' 1 0 Tryz.underlying23 rfl rfl rfl hR rfl rfl hl.symm hl.symm (hc.trans hl.symm) (by show 0 < (lineF l k).length; omega)) <| Zw <| Znl <| Zee <| Zre .n hS [0,0] 0 rfl rfl rfl rfl
theorem c56 (b k : Nat) (l bs : List Int) (hb : bs.length = 16) (hl : l.length ≤ 1048576) (hk : k < 4294967296) : Sp Tryz.prog 56 [.pointer (some ⟨b, 0, none⟩), .int .u32 (k : Int), .agg (bs.map (Value.int .u8)).toArray] [.hp (imgC b l)] fun K => (k < l.length / 16 → K (.returned (.int .i64 0)) [.hp (imgC b (setF l k bs))]) ∧ (l.length / 16 ≤ k → K (.returned (.int .i64 4)) [.hp (imgC b l)]) := by
  refine Zen Tryz.func56 rfl rfl rfl fun e X Φ hS => Zsr <| Ze (ebx rfl) fun b5 => Zw <| Zv (ya rfl) <| Znl <| Znx <| Zsr <| Zv (ym rfl) <| Zv (ym rfl) <| Zv (yfn rfl rfl) ?_
  refine Zk (c104 b l (setF l k bs) k 105 (.pointer (some ⟨b5, 0, none⟩)) (.blk b5 115 (bs.map (Value.int .u8))) (.blk b5 115 (bs.map (Value.int .u8))) hl hk (fun h => set_len h hb) (by kernel_rfl) (fun h g o cap => c105 b5 bs hb _ cap k l h)) [1,0] rfl rfl <| ⟨?_, ?_⟩
  refine fun a => Zq <| Zv (ya rfl) <| Znl <| Znx <| Zrt ?_
  rotate_left
  refine fun a => Zq <| Zv (ya rfl) <| Znl <| Znx <| Zrt ?_
  rotate_left
  · refine Zre (.t rfl .n) (hS.1 a) [0] 1 rfl rfl rfl rfl
  · refine Zre (.t rfl .n) (hS.2 a) [0] 1 rfl rfl rfl rfl
theorem c258 (b k : Nat) (l : List Int) (hl : l.length ≤ 1048576) (hk : k < 4294967296) : Sp Tryz.prog 258 [.pointer (some ⟨b, 0, none⟩), .int .u32 (k : Int)] [.hp (imgC b l)] fun K => (k < l.length / 16 → K (.returned (.tuple #[.agg ((lineF l k).map (Value.int .u8)).toArray, .int .i64 0])) [.hp (imgC b l)]) ∧ (l.length / 16 ≤ k → K (.returned (.tuple #[.agg ((List.replicate 16 0).map (Value.int .u8)).toArray, .int .i64 4])) [.hp (imgC b l)]) := by
  have hll := @line_len l k
  refine Zen Tryz.func258 rfl rfl rfl fun e X Φ hS => Zsr <| Ze (eal z115) fun b4 => Zw <| Zv (ya rfl) <| Znl <| Znx <| Zsr <| Ze (eal z115) fun b6 => Zw <| Znl <| Znx ?_
  refine Zsr <| Zv (ym rfl) <| Zv (ym rfl) <| Zv (yfn rfl rfl) ?_
  refine Zk (c104 b l l k 302 (.pointer (some ⟨b6, 0, none⟩)) (.blk b6 115 (List.replicate 16 (Value.int .u8 0))) (.blk b6 115 ((lineF l k).map (Value.int .u8))) hl hk (fun _ => rfl) (by kernel_rfl) (fun h g o cap => c302 b6 (List.replicate 16 (Value.int .u8 0)) rfl _ cap k l h)) [2,0] rfl rfl <| ⟨?_, ?_⟩
  refine fun a => Zq <| Zv (ya rfl) <| Znl <| Znx <| Zsr <| Zv (ydw 1 (m := 16) rfl rfl (by simp [*])) <| Zv (ym rfl) <| Ze (esw 2 (m := 16) rfl rfl rfl rfl rfl (by simp [*]) (all_map_int _ _)) <| Zw0 <| Zv (ya rfl) ?_
  refine Znl <| Znx <| Zrt ?_
  rotate_left
  refine fun a => Zq <| Zv (ya rfl) <| Znl <| Znx <| Zsr <| Zv (ydw 1 (m := 16) rfl rfl rfl) <| Zv (ym rfl) <| Ze (esw 2 (m := 16) rfl rfl rfl rfl rfl rfl rfl) <| Zw0 <| Zv (ya rfl) ?_
  refine Znl <| Znx <| Zrt ?_
  rotate_left
  · refine Zre (.wh 2 (m := 16) rfl rfl (by simp [*]) (.t rfl .n)) (hS.1 a) [0] 2 rfl rfl rfl rfl
  · refine Zre (.wh 2 (m := 16) rfl rfl rfl (.t rfl .n)) (hS.2 a) [0] 2 rfl rfl rfl rfl
end Go.Proofs.YtpfijldkkfiooaaGreatDoor
namespace Go.Proofs.YtpfijldkkfiooaaGreatDoor
open Go
set_option maxRecDepth 4000
def wv (a b : Bool) : Value := .agg #[.bool a, .bool b]
def wantL : List (Int × Value) := [(10, wv false true), (9, wv false true), (8, wv false true), (7, wv false false), (6, wv false false), (5, wv false false), (4, wv false false), (13, wv true false), (12, wv true false), (11, wv true true), (3, wv true true), (2, wv true false), (1, wv true false)]
theorem c225 : Sp Tryz.prog 225 [] [] fun K => ∀ r, K (.returned (.map (some r))) [mapC .i64 r wantL] := by
  refine Zen Tryz.func225 rfl rfl rfl fun e X Φ hS => Zsr <| Zv (ya rfl) <| Znl <| Znx <| Zsr <| Ze (emk .i64) fun r1 => Zw <| Zv (yb l340 rfl) <| Ze (ein 0 rfl rfl rfl rfl rfl rfl Tryz.underlying342 Tryz.underlying114) <| Zw0 <| Zv (yb l340 rfl) ?_
  refine Ze (ein 0 rfl rfl rfl rfl rfl rfl Tryz.underlying342 Tryz.underlying114) <| Zw0 <| Zv (yb l340 rfl) <| Ze (ein 0 rfl rfl rfl rfl rfl rfl Tryz.underlying342 Tryz.underlying114) <| Zw0 <| Zv (yb l340 rfl) <| Ze (ein 0 rfl rfl rfl rfl rfl rfl Tryz.underlying342 Tryz.underlying114) <| Zw0 <| Zv (yb l340 rfl) <| Ze (ein 0 rfl rfl rfl rfl rfl rfl Tryz.underlying342 Tryz.underlying114) <| Zw0 <| Zv (yb l340 rfl) <| Ze (ein 0 rfl rfl rfl rfl rfl rfl Tryz.underlying342 Tryz.underlying114) <| Zw0 <| Zv (yb l340 rfl) ?_
  refine Ze (ein 0 rfl rfl rfl rfl rfl rfl Tryz.underlying342 Tryz.underlying114) <| Zw0 <| Zv (yb l340 rfl) <| Ze (ein 0 rfl rfl rfl rfl rfl rfl Tryz.underlying342 Tryz.underlying114) <| Zw0 <| Zv (yb l340 rfl) <| Ze (ein 0 rfl rfl rfl rfl rfl rfl Tryz.underlying342 Tryz.underlying114) <| Zw0 <| Zv (yb l340 rfl) <| Ze (ein 0 rfl rfl rfl rfl rfl rfl Tryz.underlying342 Tryz.underlying114) <| Zw0 <| Zv (yb l340 rfl) <| Ze (ein 0 rfl rfl rfl rfl rfl rfl Tryz.underlying342 Tryz.underlying114) <| Zw0 <| Zv (yb l340 rfl) ?_
  refine Ze (ein 0 rfl rfl rfl rfl rfl rfl Tryz.underlying342 Tryz.underlying114) <| Zw0 <| Zv (yb l340 rfl) <| Ze (ein 0 rfl rfl rfl rfl rfl rfl Tryz.underlying342 Tryz.underlying114) <| Zw0 <| Zv (ym rfl) <| Zv (ya rfl) <| Znl <| Znx <| Zrt ?_
  refine Zre (.t rfl .n) (hS r1) [0] 0 rfl rfl rfl rfl
theorem want_lk (k : Int) : lk k wantL = if isK k then some (wv (homeK k) (bytesK k)) else none := by
  by_cases h : k = 1 ∨ k = 2 ∨ k = 3 ∨ k = 4 ∨ k = 5 ∨ k = 6 ∨ k = 7 ∨ k = 8 ∨ k = 9 ∨ k = 10 ∨ k = 11 ∨ k = 12 ∨ k = 13
  · rcases h with rfl | rfl | rfl | rfl | rfl | rfl | rfl | rfl | rfl | rfl | rfl | rfl | rfl <;> rfl
  · have e1 : isK k = false := by simp [isK]; omega
    rw [e1]
    have hn : ∀ c : Int, c = 1 ∨ c = 2 ∨ c = 3 ∨ c = 4 ∨ c = 5 ∨ c = 6 ∨ c = 7 ∨ c = 8 ∨ c = 9 ∨ c = 10 ∨ c = 11 ∨ c = 12 ∨ c = 13 → (k == c) = false := by
      intro c hc
      simp
      omega
    simp [wantL, lk, hn]
theorem chk_eq (m : Msg) : chk m = (if isK m.kind = false then 2 else if homeK m.kind = true then (if m.dst ≠ 4 ∨ m.src < 0 ∨ 4 ≤ m.src ∨ (bytesK m.kind = false ∧ m.bs ≠ b16z) then 2 else 0) else (if m.src ≠ 4 ∨ m.dst < 0 ∨ 4 ≤ m.dst ∨ (bytesK m.kind = false ∧ m.bs ≠ b16z) then 2 else 0)) := by
  unfold chk goodMsg
  rw [isK_iff]
  cases hh : homeK m.kind with
  | true =>
    have hc := home_not _ hh
    simp only [hc, isCache, bs0]
    cases bytesK m.kind <;> simp <;> grind
  | false =>
    cases hc : cacheK m.kind with
    | true =>
      simp only [isCache, bs0]
      cases bytesK m.kind <;> simp <;> grind
    | false => simp
theorem c190 (m : Msg) : Sp Tryz.prog 190 [.agg (msgE.arr m)] [] fun K => K (.returned (.int .i64 (chk m))) [] := by
  have hlk := want_lk m.kind
  rw [chk_eq]
  cases hk : isK m.kind with
  | false =>
    rw [hk] at hlk
    have hl : lk m.kind wantL = none := hlk
    refine Zen Tryz.func190 rfl rfl rfl fun e X Φ hS => Zsr <| Ze (ebxE rfl) fun b1 => Zw <| Zv (ya rfl) <| Znl <| Znx <| Zsq <| Zhd [] rfl rfl <| Zht 1 rfl (yf 0 rfl) <| Zht 2 rfl (yd 0 rfl rfl rfl) ?_
    refine Zh2 0 7 (by kernel_rfl) (Zok (c225 ..) [] rfl rfl rfl ?_) (Zoe rfl (eal z340) fun b3 => Zwh 1 rfl ?_)
    refine fun r => Zqh 1 rfl <| Zh2 3 7 (by kernel_rfl) (Zov rfl (ylk' 0 hl rfl rfl rfl Tryz.underlying342 Tryz.underlying114 zv340) ?_) (Zoe rfl (eal z340) fun b3 => Zwh 2 rfl ?_)
    refine Zht 4 rfl (ym rfl) <| Zht 5 rfl (yx rfl rfl) <| Zht 6 rfl (yx rfl rfl) <| Zh1 7 (by kernel_rfl) <| Zoe rfl (eal z340) fun b3 => Zwh 2 rfl <| Zh1 8 (by kernel_rfl) <| Zoe rfl (esw 0 (m := 2) rfl rfl rfl rfl rfl rfl rfl) <| Zwh0 2 rfl <| Zht 9 rfl (ya rfl) <| Zhn (by kernel_rfl) <| Znx <| Zsr <| Zv (yf 2 rfl) ?_
    refine Zv (yd 2 rfl rfl rfl) <| Zv (ya rfl) <| Znl <| Znx <| Zsq <| Zbl <| Zsq <| Zbl <| Zsq <| Zbl ?_
    refine Zsq <| Zbl <| Zsq <| Zsq <| Zsr <| Zv (ym rfl) <| Zv (ynot rfl) <| Zv (ya rfl) <| Znl <| Znx ?_
    refine Zct rfl <| Zex <| Zxt <| Zxt <| Zxx <| Znx <| Zsq <| Zsr <| Zv (ya rfl) <| Znl ?_
    refine Znx <| Zrt <| Zr1 <| Zr2 <| Zr1 <| Zr2 <| Zr1 <| Zr2 <| Zr1 <| Zre (.t rfl .n) hS [] 3 rfl rfl rfl rfl
    refine Zh1 3 (by kernel_rfl) <| Zov rfl (ylk' 1 hl rfl rfl rfl Tryz.underlying342 Tryz.underlying114 zv340) <| Zht 4 rfl (ym rfl) <| Zht 5 rfl (yx rfl rfl) <| Zht 6 rfl (yx rfl rfl) <| Zh1 8 (by kernel_rfl) <| Zoe rfl (esw 0 (m := 2) rfl rfl rfl rfl rfl rfl rfl) <| Zwh0 2 rfl <| Zht 9 rfl (ya rfl) <| Zhn (by kernel_rfl) <| Znx <| Zsr <| Zv (yf 2 rfl) ?_
    refine Zv (yd 2 rfl rfl rfl) <| Zv (ya rfl) <| Znl <| Znx <| Zsq <| Zbl <| Zsq <| Zbl <| Zsq <| Zbl ?_
    refine Zsq <| Zbl <| Zsq <| Zsq <| Zsr <| Zv (ym rfl) <| Zv (ynot rfl) <| Zv (ya rfl) <| Znl <| Znx ?_
    refine Zct rfl <| Zex <| Zxt <| Zxt <| Zxx <| Znx <| Zsq <| Zsr <| Zv (ya rfl) <| Znl ?_
    refine Znx <| Zrt <| Zr1 <| Zr2 <| Zr1 <| Zr2 <| Zr1 <| Zr2 <| Zr1 <| Zre (.t rfl .n) hS [] 3 rfl rfl rfl rfl
    refine Zh1 0 (by kernel_rfl) <| Zok (c225 ..) [] rfl rfl rfl <| fun r => Zqh 2 rfl <| Zh1 3 (by kernel_rfl) <| Zov rfl (ylk' 0 hl rfl rfl rfl Tryz.underlying342 Tryz.underlying114 zv340) <| Zht 4 rfl (ym rfl) <| Zht 5 rfl (yx rfl rfl) <| Zht 6 rfl (yx rfl rfl) <| Zh1 8 (by kernel_rfl) <| Zoe rfl (esw 1 (m := 2) rfl rfl rfl rfl rfl rfl rfl) <| Zwh0 2 rfl <| Zht 9 rfl (ya rfl) <| Zhn (by kernel_rfl) ?_
    refine Znx <| Zsr <| Zv (yf 2 rfl) <| Zv (yd 2 rfl rfl rfl) <| Zv (ya rfl) <| Znl <| Znx <| Zsq <| Zbl <| Zsq ?_
    refine Zbl <| Zsq <| Zbl <| Zsq <| Zbl <| Zsq <| Zsq <| Zsr <| Zv (ym rfl) <| Zv (ynot rfl) ?_
    refine Zv (ya rfl) <| Znl <| Znx <| Zct rfl <| Zex <| Zxt <| Zxt <| Zxx <| Znx <| Zsq ?_
    refine Zsr <| Zv (ya rfl) <| Znl <| Znx <| Zrt <| Zr1 <| Zr2 <| Zr1 <| Zr2 <| Zr1 ?_
    refine Zr2 <| Zr1 <| Zre (.t rfl .n) hS [] 3 rfl rfl rfl rfl
  | true =>
    rw [hk] at hlk
    have hl : lk m.kind wantL = some (wv (homeK m.kind) (bytesK m.kind)) := hlk
    refine Zen Tryz.func190 rfl rfl rfl fun e X Φ hS => Zsr <| Ze (ebxE rfl) fun b1 => Zw <| Zv (ya rfl) <| Znl <| Znx <| Zsq <| Zhd [] rfl rfl <| Zht 1 rfl (yf 0 rfl) <| Zht 2 rfl (yd 0 rfl rfl rfl) ?_
    refine Zh2 0 7 (by kernel_rfl) (Zok (c225 ..) [] rfl rfl rfl ?_) (Zoe rfl (eal z340) fun b3 => Zwh 1 rfl ?_)
    refine fun r => Zqh 1 rfl <| Zh2 3 7 (by kernel_rfl) (Zov rfl (ylk' 0 hl rfl rfl rfl Tryz.underlying342 Tryz.underlying114 zv340) ?_) (Zoe rfl (eal z340) fun b3 => Zwh 2 rfl ?_)
    refine Zht 4 rfl (ym rfl) <| Zht 5 rfl (yx rfl rfl) <| Zht 6 rfl (yx rfl rfl) <| Zh1 7 (by kernel_rfl) <| Zoe rfl (eal z340) fun b3 => Zwh 2 rfl <| Zh1 8 (by kernel_rfl) <| Zoe rfl (esw 0 (m := 2) rfl rfl rfl rfl rfl rfl rfl) <| Zwh0 2 rfl <| Zht 9 rfl (ya rfl) <| Zhn (by kernel_rfl) <| Znx <| Zsr <| Zv (yf 2 rfl) ?_
    refine Zv (yd 2 rfl rfl rfl) <| Zv (ya rfl) <| Znl <| Znx <| Zsq <| Zbl <| Zsq <| Zbl <| Zsq <| Zbl ?_
    refine Zsq <| Zbl <| Zsq <| Zsq <| Zsr <| Zv (ym rfl) <| Zv (ynot rfl) <| Zv (ya rfl) <| Znl <| Znx ?_
    refine Zcf rfl <| Zsk <| Znx <| Zsr <| Zv (yf 0 rfl) <| Zv (yd 0 rfl rfl rfl) <| Zv (ya rfl) <| Znl <| Znx <| Zib rfl (fun h18 => ?_) (fun h18 => ?_)
    refine Zex <| Zxt <| Zxb rfl <| Zxt <| Zxx <| Znx <| Zsq <| Zsr <| Zv (yf 2 rfl) <| Zv (yd 2 rfl rfl rfl) ?_
    refine Zv (yne rfl rfl) <| Znl <| Znx <| Zif rfl (fun h23 => ?_) (fun h23 => ?_)
    refine Zsr <| Zv (ya rfl) <| Znl <| Znx <| Zrt <| Zr1 <| Zr2 <| Zr1 <| Zr2 <| Zr1 ?_
    refine Zre (.t rfl .n) hS [] 3 ?_ rfl rfl rfl
    rotate_left
    refine Zsk <| Znx <| Zrg <| Zv (yf 1 rfl) <| Zv (yd 2 rfl rfl rfl) <| Zv (ya rfl) <| Znl <| Zxn <| Znx <| Zsq ?_
    refine Zsr <| Zv (yf 0 rfl) <| Zv (yd 0 rfl rfl rfl) <| Zv (ynot rfl) <| Zv (ym rfl) <| Zu' rfl rfl (congrArg Bool.not h18) rfl <| Zu' rfl rfl (congrArg Bool.not h18) rfl <| Zu' rfl rfl (congrArg Bool.not h18) rfl <| Zv (ypf' rfl (congrArg Bool.not h18) rfl) <| Zv (ym rfl) ?_
    refine Zg rfl rfl <| Zv (ym rfl) <| Zg rfl rfl <| Zv (ylt rfl rfl) <| Zv (ypf rfl rfl) <| Zv (ym rfl) <| Zgs rfl rfl (fun h38 => ?_) (fun h38 => ?_)
    refine Zu' rfl rfl (decide_eq_true h38) rfl <| Zu' rfl rfl (decide_eq_true h38) rfl <| Zv (ypt' rfl (decide_eq_true h38) rfl) <| Zv (ym rfl) <| Zu rfl rfl rfl <| Zu rfl rfl rfl <| Zu rfl rfl rfl <| Zu rfl rfl rfl <| Zuu rfl rfl <| Zuu rfl rfl ?_
    refine Zuu rfl rfl <| Zuu rfl rfl <| Zu rfl rfl rfl <| Zv (ypt rfl rfl) <| Znl <| Znx <| Zct rfl <| Zsr <| Zv (ya rfl) <| Znl ?_
    refine Znx <| Zrt <| Zr1 <| Zr2 <| Zr1 <| Zre (.t rfl .n) hS [] 3 ?_ rfl rfl rfl
    rotate_left
    refine Zg' rfl rfl (decide_eq_false h38) <| Zv (ym rfl) <| Zg' rfl rfl (decide_eq_false h38) <| Zv (yge rfl rfl) <| Zv (ypf' rfl (decide_eq_false h38) rfl) <| Zv (ym rfl) <| Zgs rfl rfl (fun h42 => ?_) (fun h42 => ?_)
    refine Zu' rfl rfl (decide_eq_true h42) rfl <| Zu' rfl rfl (decide_eq_true h42) rfl <| Zu' rfl rfl (decide_eq_true h42) rfl <| Zu' rfl rfl (decide_eq_true h42) rfl <| Zuu rfl rfl <| Zuu rfl rfl <| Zuu rfl rfl <| Zuu rfl rfl <| Zu' rfl rfl (decide_eq_true h42) rfl <| Zv (ypt' rfl (decide_eq_true h42) rfl) ?_
    refine Znl <| Znx <| Zct rfl <| Zsr <| Zv (ya rfl) <| Znl <| Znx <| Zrt <| Zr1 <| Zr2 ?_
    refine Zr1 <| Zre (.t rfl .n) hS [] 3 ?_ rfl rfl rfl
    rotate_left
    refine Zg' rfl rfl (decide_eq_false h42) <| Zv (yf 1 rfl) <| Zg' rfl rfl (decide_eq_false h42) <| Zv (yd 0 rfl rfl rfl) <| Zg' rfl rfl (decide_eq_false h42) <| Zv (ynot rfl) <| Zg' rfl rfl (decide_eq_false h42) <| Zv (ym rfl) <| Zgb rfl rfl (fun h46 => ?_) (fun h46 => ?_)
    refine Zg' rfl rfl h46 <| Zv (yf 4 rfl) <| Zg' rfl rfl h46 <| Zv (yda 2 (m := 16) rfl rfl (msg_bs' _) (Enc.len ..)) <| Zg' rfl rfl h46 <| Zv (yb l115 rfl) <| Zg' rfl rfl h46 <| Zv (yneE bsER _ b16z rfl rfl) <| Zg' rfl rfl (decide_eq_false h42) <| Zv (ypt' rfl h46 rfl) ?_
    refine Zv (ypf' rfl (decide_eq_false h42) rfl) <| Znl <| Znx <| Zib rfl (fun h52 => ?_) (fun h52 => ?_)
    refine Zsr <| Zv (ya rfl) <| Znl <| Znx <| Zrt <| Zr1 <| Zr2 <| Zr1 <| Zre (.t rfl .n) hS [] 3 ?_ rfl rfl rfl
    rotate_left
    refine Zsk <| Znx <| Zex <| Zxx <| Znx <| Zsr <| Zv (ya rfl) <| Znl <| Znx <| Zrt ?_
    refine Zre (.t rfl .n) hS [] 3 ?_ rfl rfl rfl
    rotate_left
    refine Zu' rfl rfl h46 rfl <| Zu' rfl rfl h46 rfl <| Zu' rfl rfl h46 rfl <| Zu' rfl rfl h46 rfl <| Zg' rfl rfl (decide_eq_false h42) <| Zv (ypf' rfl h46 rfl) <| Zv (ypf' rfl (decide_eq_false h42) rfl) <| Znl <| Znx <| Zcf rfl ?_
    refine Zsk <| Znx <| Zex <| Zxx <| Znx <| Zsr <| Zv (ya rfl) <| Znl <| Znx <| Zrt ?_
    refine Zre (.t rfl .n) hS [] 3 ?_ rfl rfl rfl
    rotate_left
    refine Zsk <| Znx <| Zex <| Zxb rfl <| Zxt <| Zxb rfl <| Zxt <| Zxx <| Znx <| Zsq ?_
    refine Zsr <| Zv (yf 0 rfl) <| Zv (yd 0 rfl rfl rfl) <| Zv (ynot rfl) <| Zv (ym rfl) <| Zg' rfl rfl (congrArg Bool.not h18) <| Zv (yf 1 rfl) <| Zg' rfl rfl (congrArg Bool.not h18) <| Zv (yd 2 rfl rfl rfl) <| Zg' rfl rfl (congrArg Bool.not h18) ?_
    refine Zv (yne rfl rfl) <| Zv (ypt' rfl (congrArg Bool.not h18) rfl) <| Zv (ym rfl) <| Zgs rfl rfl (fun h34 => ?_) (fun h34 => ?_)
    refine Zu' rfl rfl (decide_eq_true h34) rfl <| Zu' rfl rfl (decide_eq_true h34) rfl <| Zv (ypt' rfl (decide_eq_true h34) rfl) <| Zv (ym rfl) <| Zu rfl rfl rfl <| Zu rfl rfl rfl <| Zv (ypt rfl rfl) <| Zv (ym rfl) <| Zu rfl rfl rfl <| Zu rfl rfl rfl ?_
    refine Zu rfl rfl rfl <| Zu rfl rfl rfl <| Zuu rfl rfl <| Zuu rfl rfl <| Zuu rfl rfl <| Zuu rfl rfl <| Zu rfl rfl rfl <| Zv (ypt rfl rfl) <| Znl <| Znx ?_
    refine Zct rfl <| Zsr <| Zv (ya rfl) <| Znl <| Znx <| Zrt <| Zr1 <| Zr2 <| Zr1 <| Zre (.t rfl .n) hS [] 3 ?_ rfl rfl rfl
    rotate_left
    refine Zg' rfl rfl (decide_eq_false h34) <| Zv (ym rfl) <| Zg' rfl rfl (decide_eq_false h34) <| Zv (ylt rfl rfl) <| Zv (ypf' rfl (decide_eq_false h34) rfl) <| Zv (ym rfl) <| Zgs rfl rfl (fun h38 => ?_) (fun h38 => ?_)
    refine Zu' rfl rfl (decide_eq_true h38) rfl <| Zu' rfl rfl (decide_eq_true h38) rfl <| Zv (ypt' rfl (decide_eq_true h38) rfl) <| Zv (ym rfl) <| Zu rfl rfl rfl <| Zu rfl rfl rfl <| Zu rfl rfl rfl <| Zu rfl rfl rfl <| Zuu rfl rfl <| Zuu rfl rfl ?_
    refine Zuu rfl rfl <| Zuu rfl rfl <| Zu rfl rfl rfl <| Zv (ypt rfl rfl) <| Znl <| Znx <| Zct rfl <| Zsr <| Zv (ya rfl) <| Znl ?_
    refine Znx <| Zrt <| Zr1 <| Zr2 <| Zr1 <| Zre (.t rfl .n) hS [] 3 ?_ rfl rfl rfl
    rotate_left
    refine Zg' rfl rfl (decide_eq_false h38) <| Zv (ym rfl) <| Zg' rfl rfl (decide_eq_false h38) <| Zv (yge rfl rfl) <| Zv (ypf' rfl (decide_eq_false h38) rfl) <| Zv (ym rfl) <| Zgs rfl rfl (fun h42 => ?_) (fun h42 => ?_)
    refine Zu' rfl rfl (decide_eq_true h42) rfl <| Zu' rfl rfl (decide_eq_true h42) rfl <| Zu' rfl rfl (decide_eq_true h42) rfl <| Zu' rfl rfl (decide_eq_true h42) rfl <| Zuu rfl rfl <| Zuu rfl rfl <| Zuu rfl rfl <| Zuu rfl rfl <| Zu' rfl rfl (decide_eq_true h42) rfl <| Zv (ypt' rfl (decide_eq_true h42) rfl) ?_
    refine Znl <| Znx <| Zct rfl <| Zsr <| Zv (ya rfl) <| Znl <| Znx <| Zrt <| Zr1 <| Zr2 ?_
    refine Zr1 <| Zre (.t rfl .n) hS [] 3 ?_ rfl rfl rfl
    rotate_left
    refine Zg' rfl rfl (decide_eq_false h42) <| Zv (yf 1 rfl) <| Zg' rfl rfl (decide_eq_false h42) <| Zv (yd 0 rfl rfl rfl) <| Zg' rfl rfl (decide_eq_false h42) <| Zv (ynot rfl) <| Zg' rfl rfl (decide_eq_false h42) <| Zv (ym rfl) <| Zgb rfl rfl (fun h46 => ?_) (fun h46 => ?_)
    refine Zg' rfl rfl h46 <| Zv (yf 4 rfl) <| Zg' rfl rfl h46 <| Zv (yda 2 (m := 16) rfl rfl (msg_bs' _) (Enc.len ..)) <| Zg' rfl rfl h46 <| Zv (yb l115 rfl) <| Zg' rfl rfl h46 <| Zv (yneE bsER _ b16z rfl rfl) <| Zg' rfl rfl (decide_eq_false h42) <| Zv (ypt' rfl h46 rfl) ?_
    refine Zv (ypf' rfl (decide_eq_false h42) rfl) <| Znl <| Znx <| Zib rfl (fun h52 => ?_) (fun h52 => ?_)
    refine Zsr <| Zv (ya rfl) <| Znl <| Znx <| Zrt <| Zr1 <| Zr2 <| Zr1 <| Zre (.t rfl .n) hS [] 3 ?_ rfl rfl rfl
    rotate_left
    refine Zsk <| Znx <| Zex <| Zxx <| Znx <| Zsr <| Zv (ya rfl) <| Znl <| Znx <| Zrt ?_
    refine Zre (.t rfl .n) hS [] 3 ?_ rfl rfl rfl
    rotate_left
    refine Zu' rfl rfl h46 rfl <| Zu' rfl rfl h46 rfl <| Zu' rfl rfl h46 rfl <| Zu' rfl rfl h46 rfl <| Zg' rfl rfl (decide_eq_false h42) <| Zv (ypf' rfl h46 rfl) <| Zv (ypf' rfl (decide_eq_false h42) rfl) <| Znl <| Znx <| Zcf rfl ?_
    refine Zsk <| Znx <| Zex <| Zxx <| Znx <| Zsr <| Zv (ya rfl) <| Znl <| Znx <| Zrt ?_
    refine Zre (.t rfl .n) hS [] 3 ?_ rfl rfl rfl
    rotate_left
    refine Zh1 3 (by kernel_rfl) <| Zov rfl (ylk' 1 hl rfl rfl rfl Tryz.underlying342 Tryz.underlying114 zv340) <| Zht 4 rfl (ym rfl) <| Zht 5 rfl (yx rfl rfl) <| Zht 6 rfl (yx rfl rfl) <| Zh1 8 (by kernel_rfl) <| Zoe rfl (esw 0 (m := 2) rfl rfl rfl rfl rfl rfl rfl) <| Zwh0 2 rfl <| Zht 9 rfl (ya rfl) <| Zhn (by kernel_rfl) <| Znx <| Zsr <| Zv (yf 2 rfl) ?_
    refine Zv (yd 2 rfl rfl rfl) <| Zv (ya rfl) <| Znl <| Znx <| Zsq <| Zbl <| Zsq <| Zbl <| Zsq <| Zbl ?_
    refine Zsq <| Zbl <| Zsq <| Zsq <| Zsr <| Zv (ym rfl) <| Zv (ynot rfl) <| Zv (ya rfl) <| Znl <| Znx ?_
    refine Zcf rfl <| Zsk <| Znx <| Zsr <| Zv (yf 0 rfl) <| Zv (yd 0 rfl rfl rfl) <| Zv (ya rfl) <| Znl <| Znx <| Zib rfl (fun h18 => ?_) (fun h18 => ?_)
    refine Zex <| Zxt <| Zxb rfl <| Zxt <| Zxx <| Znx <| Zsq <| Zsr <| Zv (yf 2 rfl) <| Zv (yd 2 rfl rfl rfl) ?_
    refine Zv (yne rfl rfl) <| Znl <| Znx <| Zif rfl (fun h23 => ?_) (fun h23 => ?_)
    refine Zsr <| Zv (ya rfl) <| Znl <| Znx <| Zrt <| Zr1 <| Zr2 <| Zr1 <| Zr2 <| Zr1 ?_
    refine Zre (.t rfl .n) hS [] 3 ?_ rfl rfl rfl
    rotate_left
    refine Zsk <| Znx <| Zrg <| Zv (yf 1 rfl) <| Zv (yd 2 rfl rfl rfl) <| Zv (ya rfl) <| Znl <| Zxn <| Znx <| Zsq ?_
    refine Zsr <| Zv (yf 0 rfl) <| Zv (yd 0 rfl rfl rfl) <| Zv (ynot rfl) <| Zv (ym rfl) <| Zu' rfl rfl (congrArg Bool.not h18) rfl <| Zu' rfl rfl (congrArg Bool.not h18) rfl <| Zu' rfl rfl (congrArg Bool.not h18) rfl <| Zv (ypf' rfl (congrArg Bool.not h18) rfl) <| Zv (ym rfl) ?_
    refine Zg rfl rfl <| Zv (ym rfl) <| Zg rfl rfl <| Zv (ylt rfl rfl) <| Zv (ypf rfl rfl) <| Zv (ym rfl) <| Zgs rfl rfl (fun h38 => ?_) (fun h38 => ?_)
    refine Zu' rfl rfl (decide_eq_true h38) rfl <| Zu' rfl rfl (decide_eq_true h38) rfl <| Zv (ypt' rfl (decide_eq_true h38) rfl) <| Zv (ym rfl) <| Zu rfl rfl rfl <| Zu rfl rfl rfl <| Zu rfl rfl rfl <| Zu rfl rfl rfl <| Zuu rfl rfl <| Zuu rfl rfl ?_
    refine Zuu rfl rfl <| Zuu rfl rfl <| Zu rfl rfl rfl <| Zv (ypt rfl rfl) <| Znl <| Znx <| Zct rfl <| Zsr <| Zv (ya rfl) <| Znl ?_
    refine Znx <| Zrt <| Zr1 <| Zr2 <| Zr1 <| Zre (.t rfl .n) hS [] 3 ?_ rfl rfl rfl
    rotate_left
    refine Zg' rfl rfl (decide_eq_false h38) <| Zv (ym rfl) <| Zg' rfl rfl (decide_eq_false h38) <| Zv (yge rfl rfl) <| Zv (ypf' rfl (decide_eq_false h38) rfl) <| Zv (ym rfl) <| Zgs rfl rfl (fun h42 => ?_) (fun h42 => ?_)
    refine Zu' rfl rfl (decide_eq_true h42) rfl <| Zu' rfl rfl (decide_eq_true h42) rfl <| Zu' rfl rfl (decide_eq_true h42) rfl <| Zu' rfl rfl (decide_eq_true h42) rfl <| Zuu rfl rfl <| Zuu rfl rfl <| Zuu rfl rfl <| Zuu rfl rfl <| Zu' rfl rfl (decide_eq_true h42) rfl <| Zv (ypt' rfl (decide_eq_true h42) rfl) ?_
    refine Znl <| Znx <| Zct rfl <| Zsr <| Zv (ya rfl) <| Znl <| Znx <| Zrt <| Zr1 <| Zr2 ?_
    refine Zr1 <| Zre (.t rfl .n) hS [] 3 ?_ rfl rfl rfl
    rotate_left
    refine Zg' rfl rfl (decide_eq_false h42) <| Zv (yf 1 rfl) <| Zg' rfl rfl (decide_eq_false h42) <| Zv (yd 0 rfl rfl rfl) <| Zg' rfl rfl (decide_eq_false h42) <| Zv (ynot rfl) <| Zg' rfl rfl (decide_eq_false h42) <| Zv (ym rfl) <| Zgb rfl rfl (fun h46 => ?_) (fun h46 => ?_)
    refine Zg' rfl rfl h46 <| Zv (yf 4 rfl) <| Zg' rfl rfl h46 <| Zv (yda 2 (m := 16) rfl rfl (msg_bs' _) (Enc.len ..)) <| Zg' rfl rfl h46 <| Zv (yb l115 rfl) <| Zg' rfl rfl h46 <| Zv (yneE bsER _ b16z rfl rfl) <| Zg' rfl rfl (decide_eq_false h42) <| Zv (ypt' rfl h46 rfl) ?_
    refine Zv (ypf' rfl (decide_eq_false h42) rfl) <| Znl <| Znx <| Zib rfl (fun h52 => ?_) (fun h52 => ?_)
    refine Zsr <| Zv (ya rfl) <| Znl <| Znx <| Zrt <| Zr1 <| Zr2 <| Zr1 <| Zre (.t rfl .n) hS [] 3 ?_ rfl rfl rfl
    rotate_left
    refine Zsk <| Znx <| Zex <| Zxx <| Znx <| Zsr <| Zv (ya rfl) <| Znl <| Znx <| Zrt ?_
    refine Zre (.t rfl .n) hS [] 3 ?_ rfl rfl rfl
    rotate_left
    refine Zu' rfl rfl h46 rfl <| Zu' rfl rfl h46 rfl <| Zu' rfl rfl h46 rfl <| Zu' rfl rfl h46 rfl <| Zg' rfl rfl (decide_eq_false h42) <| Zv (ypf' rfl h46 rfl) <| Zv (ypf' rfl (decide_eq_false h42) rfl) <| Znl <| Znx <| Zcf rfl ?_
    refine Zsk <| Znx <| Zex <| Zxx <| Znx <| Zsr <| Zv (ya rfl) <| Znl <| Znx <| Zrt ?_
    refine Zre (.t rfl .n) hS [] 3 ?_ rfl rfl rfl
    rotate_left
    refine Zsk <| Znx <| Zex <| Zxb rfl <| Zxt <| Zxb rfl <| Zxt <| Zxx <| Znx <| Zsq ?_
    refine Zsr <| Zv (yf 0 rfl) <| Zv (yd 0 rfl rfl rfl) <| Zv (ynot rfl) <| Zv (ym rfl) <| Zg' rfl rfl (congrArg Bool.not h18) <| Zv (yf 1 rfl) <| Zg' rfl rfl (congrArg Bool.not h18) <| Zv (yd 2 rfl rfl rfl) <| Zg' rfl rfl (congrArg Bool.not h18) ?_
    refine Zv (yne rfl rfl) <| Zv (ypt' rfl (congrArg Bool.not h18) rfl) <| Zv (ym rfl) <| Zgs rfl rfl (fun h34 => ?_) (fun h34 => ?_)
    refine Zu' rfl rfl (decide_eq_true h34) rfl <| Zu' rfl rfl (decide_eq_true h34) rfl <| Zv (ypt' rfl (decide_eq_true h34) rfl) <| Zv (ym rfl) <| Zu rfl rfl rfl <| Zu rfl rfl rfl <| Zv (ypt rfl rfl) <| Zv (ym rfl) <| Zu rfl rfl rfl <| Zu rfl rfl rfl ?_
    refine Zu rfl rfl rfl <| Zu rfl rfl rfl <| Zuu rfl rfl <| Zuu rfl rfl <| Zuu rfl rfl <| Zuu rfl rfl <| Zu rfl rfl rfl <| Zv (ypt rfl rfl) <| Znl <| Znx ?_
    refine Zct rfl <| Zsr <| Zv (ya rfl) <| Znl <| Znx <| Zrt <| Zr1 <| Zr2 <| Zr1 <| Zre (.t rfl .n) hS [] 3 ?_ rfl rfl rfl
    rotate_left
    refine Zg' rfl rfl (decide_eq_false h34) <| Zv (ym rfl) <| Zg' rfl rfl (decide_eq_false h34) <| Zv (ylt rfl rfl) <| Zv (ypf' rfl (decide_eq_false h34) rfl) <| Zv (ym rfl) <| Zgs rfl rfl (fun h38 => ?_) (fun h38 => ?_)
    refine Zu' rfl rfl (decide_eq_true h38) rfl <| Zu' rfl rfl (decide_eq_true h38) rfl <| Zv (ypt' rfl (decide_eq_true h38) rfl) <| Zv (ym rfl) <| Zu rfl rfl rfl <| Zu rfl rfl rfl <| Zu rfl rfl rfl <| Zu rfl rfl rfl <| Zuu rfl rfl <| Zuu rfl rfl ?_
    refine Zuu rfl rfl <| Zuu rfl rfl <| Zu rfl rfl rfl <| Zv (ypt rfl rfl) <| Znl <| Znx <| Zct rfl <| Zsr <| Zv (ya rfl) <| Znl ?_
    refine Znx <| Zrt <| Zr1 <| Zr2 <| Zr1 <| Zre (.t rfl .n) hS [] 3 ?_ rfl rfl rfl
    rotate_left
    refine Zg' rfl rfl (decide_eq_false h38) <| Zv (ym rfl) <| Zg' rfl rfl (decide_eq_false h38) <| Zv (yge rfl rfl) <| Zv (ypf' rfl (decide_eq_false h38) rfl) <| Zv (ym rfl) <| Zgs rfl rfl (fun h42 => ?_) (fun h42 => ?_)
    refine Zu' rfl rfl (decide_eq_true h42) rfl <| Zu' rfl rfl (decide_eq_true h42) rfl <| Zu' rfl rfl (decide_eq_true h42) rfl <| Zu' rfl rfl (decide_eq_true h42) rfl <| Zuu rfl rfl <| Zuu rfl rfl <| Zuu rfl rfl <| Zuu rfl rfl <| Zu' rfl rfl (decide_eq_true h42) rfl <| Zv (ypt' rfl (decide_eq_true h42) rfl) ?_
    refine Znl <| Znx <| Zct rfl <| Zsr <| Zv (ya rfl) <| Znl <| Znx <| Zrt <| Zr1 <| Zr2 ?_
    refine Zr1 <| Zre (.t rfl .n) hS [] 3 ?_ rfl rfl rfl
    rotate_left
    refine Zg' rfl rfl (decide_eq_false h42) <| Zv (yf 1 rfl) <| Zg' rfl rfl (decide_eq_false h42) <| Zv (yd 0 rfl rfl rfl) <| Zg' rfl rfl (decide_eq_false h42) <| Zv (ynot rfl) <| Zg' rfl rfl (decide_eq_false h42) <| Zv (ym rfl) <| Zgb rfl rfl (fun h46 => ?_) (fun h46 => ?_)
    refine Zg' rfl rfl h46 <| Zv (yf 4 rfl) <| Zg' rfl rfl h46 <| Zv (yda 2 (m := 16) rfl rfl (msg_bs' _) (Enc.len ..)) <| Zg' rfl rfl h46 <| Zv (yb l115 rfl) <| Zg' rfl rfl h46 <| Zv (yneE bsER _ b16z rfl rfl) <| Zg' rfl rfl (decide_eq_false h42) <| Zv (ypt' rfl h46 rfl) ?_
    refine Zv (ypf' rfl (decide_eq_false h42) rfl) <| Znl <| Znx <| Zib rfl (fun h52 => ?_) (fun h52 => ?_)
    refine Zsr <| Zv (ya rfl) <| Znl <| Znx <| Zrt <| Zr1 <| Zr2 <| Zr1 <| Zre (.t rfl .n) hS [] 3 ?_ rfl rfl rfl
    rotate_left
    refine Zsk <| Znx <| Zex <| Zxx <| Znx <| Zsr <| Zv (ya rfl) <| Znl <| Znx <| Zrt ?_
    refine Zre (.t rfl .n) hS [] 3 ?_ rfl rfl rfl
    rotate_left
    refine Zu' rfl rfl h46 rfl <| Zu' rfl rfl h46 rfl <| Zu' rfl rfl h46 rfl <| Zu' rfl rfl h46 rfl <| Zg' rfl rfl (decide_eq_false h42) <| Zv (ypf' rfl h46 rfl) <| Zv (ypf' rfl (decide_eq_false h42) rfl) <| Znl <| Znx <| Zcf rfl ?_
    refine Zsk <| Znx <| Zex <| Zxx <| Znx <| Zsr <| Zv (ya rfl) <| Znl <| Znx <| Zrt ?_
    refine Zre (.t rfl .n) hS [] 3 ?_ rfl rfl rfl
    rotate_left
    refine Zh1 0 (by kernel_rfl) <| Zok (c225 ..) [] rfl rfl rfl <| fun r => Zqh 2 rfl <| Zh1 3 (by kernel_rfl) <| Zov rfl (ylk' 0 hl rfl rfl rfl Tryz.underlying342 Tryz.underlying114 zv340) <| Zht 4 rfl (ym rfl) <| Zht 5 rfl (yx rfl rfl) <| Zht 6 rfl (yx rfl rfl) <| Zh1 8 (by kernel_rfl) <| Zoe rfl (esw 1 (m := 2) rfl rfl rfl rfl rfl rfl rfl) <| Zwh0 2 rfl <| Zht 9 rfl (ya rfl) <| Zhn (by kernel_rfl) ?_
    refine Znx <| Zsr <| Zv (yf 2 rfl) <| Zv (yd 2 rfl rfl rfl) <| Zv (ya rfl) <| Znl <| Znx <| Zsq <| Zbl <| Zsq ?_
    refine Zbl <| Zsq <| Zbl <| Zsq <| Zbl <| Zsq <| Zsq <| Zsr <| Zv (ym rfl) <| Zv (ynot rfl) ?_
    refine Zv (ya rfl) <| Znl <| Znx <| Zcf rfl <| Zsk <| Znx <| Zsr <| Zv (yf 0 rfl) <| Zv (yd 1 rfl rfl rfl) <| Zv (ya rfl) ?_
    refine Znl <| Znx <| Zib rfl (fun h18 => ?_) (fun h18 => ?_)
    refine Zex <| Zxt <| Zxb rfl <| Zxt <| Zxx <| Znx <| Zsq <| Zsr <| Zv (yf 2 rfl) <| Zv (yd 2 rfl rfl rfl) ?_
    refine Zv (yne rfl rfl) <| Znl <| Znx <| Zif rfl (fun h23 => ?_) (fun h23 => ?_)
    refine Zsr <| Zv (ya rfl) <| Znl <| Znx <| Zrt <| Zr1 <| Zr2 <| Zr1 <| Zr2 <| Zr1 ?_
    refine Zre (.t rfl .n) hS [] 3 ?_ rfl rfl rfl
    rotate_left
    refine Zsk <| Znx <| Zrg <| Zv (yf 1 rfl) <| Zv (yd 2 rfl rfl rfl) <| Zv (ya rfl) <| Znl <| Zxn <| Znx <| Zsq ?_
    refine Zsr <| Zv (yf 0 rfl) <| Zv (yd 1 rfl rfl rfl) <| Zv (ynot rfl) <| Zv (ym rfl) <| Zu' rfl rfl (congrArg Bool.not h18) rfl <| Zu' rfl rfl (congrArg Bool.not h18) rfl <| Zu' rfl rfl (congrArg Bool.not h18) rfl <| Zv (ypf' rfl (congrArg Bool.not h18) rfl) <| Zv (ym rfl) ?_
    refine Zg rfl rfl <| Zv (ym rfl) <| Zg rfl rfl <| Zv (ylt rfl rfl) <| Zv (ypf rfl rfl) <| Zv (ym rfl) <| Zgs rfl rfl (fun h38 => ?_) (fun h38 => ?_)
    refine Zu' rfl rfl (decide_eq_true h38) rfl <| Zu' rfl rfl (decide_eq_true h38) rfl <| Zv (ypt' rfl (decide_eq_true h38) rfl) <| Zv (ym rfl) <| Zu rfl rfl rfl <| Zu rfl rfl rfl <| Zu rfl rfl rfl <| Zu rfl rfl rfl <| Zuu rfl rfl <| Zuu rfl rfl ?_
    refine Zuu rfl rfl <| Zuu rfl rfl <| Zu rfl rfl rfl <| Zv (ypt rfl rfl) <| Znl <| Znx <| Zct rfl <| Zsr <| Zv (ya rfl) <| Znl ?_
    refine Znx <| Zrt <| Zr1 <| Zr2 <| Zr1 <| Zre (.t rfl .n) hS [] 3 ?_ rfl rfl rfl
    rotate_left
    refine Zg' rfl rfl (decide_eq_false h38) <| Zv (ym rfl) <| Zg' rfl rfl (decide_eq_false h38) <| Zv (yge rfl rfl) <| Zv (ypf' rfl (decide_eq_false h38) rfl) <| Zv (ym rfl) <| Zgs rfl rfl (fun h42 => ?_) (fun h42 => ?_)
    refine Zu' rfl rfl (decide_eq_true h42) rfl <| Zu' rfl rfl (decide_eq_true h42) rfl <| Zu' rfl rfl (decide_eq_true h42) rfl <| Zu' rfl rfl (decide_eq_true h42) rfl <| Zuu rfl rfl <| Zuu rfl rfl <| Zuu rfl rfl <| Zuu rfl rfl <| Zu' rfl rfl (decide_eq_true h42) rfl <| Zv (ypt' rfl (decide_eq_true h42) rfl) ?_
    refine Znl <| Znx <| Zct rfl <| Zsr <| Zv (ya rfl) <| Znl <| Znx <| Zrt <| Zr1 <| Zr2 ?_
    refine Zr1 <| Zre (.t rfl .n) hS [] 3 ?_ rfl rfl rfl
    rotate_left
    refine Zg' rfl rfl (decide_eq_false h42) <| Zv (yf 1 rfl) <| Zg' rfl rfl (decide_eq_false h42) <| Zv (yd 1 rfl rfl rfl) <| Zg' rfl rfl (decide_eq_false h42) <| Zv (ynot rfl) <| Zg' rfl rfl (decide_eq_false h42) <| Zv (ym rfl) <| Zgb rfl rfl (fun h46 => ?_) (fun h46 => ?_)
    refine Zg' rfl rfl h46 <| Zv (yf 4 rfl) <| Zg' rfl rfl h46 <| Zv (yda 2 (m := 16) rfl rfl (msg_bs' _) (Enc.len ..)) <| Zg' rfl rfl h46 <| Zv (yb l115 rfl) <| Zg' rfl rfl h46 <| Zv (yneE bsER _ b16z rfl rfl) <| Zg' rfl rfl (decide_eq_false h42) <| Zv (ypt' rfl h46 rfl) ?_
    refine Zv (ypf' rfl (decide_eq_false h42) rfl) <| Znl <| Znx <| Zib rfl (fun h52 => ?_) (fun h52 => ?_)
    refine Zsr <| Zv (ya rfl) <| Znl <| Znx <| Zrt <| Zr1 <| Zr2 <| Zr1 <| Zre (.t rfl .n) hS [] 3 ?_ rfl rfl rfl
    rotate_left
    refine Zsk <| Znx <| Zex <| Zxx <| Znx <| Zsr <| Zv (ya rfl) <| Znl <| Znx <| Zrt ?_
    refine Zre (.t rfl .n) hS [] 3 ?_ rfl rfl rfl
    rotate_left
    refine Zu' rfl rfl h46 rfl <| Zu' rfl rfl h46 rfl <| Zu' rfl rfl h46 rfl <| Zu' rfl rfl h46 rfl <| Zg' rfl rfl (decide_eq_false h42) <| Zv (ypf' rfl h46 rfl) <| Zv (ypf' rfl (decide_eq_false h42) rfl) <| Znl <| Znx <| Zcf rfl ?_
    refine Zsk <| Znx <| Zex <| Zxx <| Znx <| Zsr <| Zv (ya rfl) <| Znl <| Znx <| Zrt ?_
    refine Zre (.t rfl .n) hS [] 3 ?_ rfl rfl rfl
    rotate_left
    refine Zsk <| Znx <| Zex <| Zxb rfl <| Zxt <| Zxb rfl <| Zxt <| Zxx <| Znx <| Zsq ?_
    refine Zsr <| Zv (yf 0 rfl) <| Zv (yd 1 rfl rfl rfl) <| Zv (ynot rfl) <| Zv (ym rfl) <| Zg' rfl rfl (congrArg Bool.not h18) <| Zv (yf 1 rfl) <| Zg' rfl rfl (congrArg Bool.not h18) <| Zv (yd 2 rfl rfl rfl) <| Zg' rfl rfl (congrArg Bool.not h18) ?_
    refine Zv (yne rfl rfl) <| Zv (ypt' rfl (congrArg Bool.not h18) rfl) <| Zv (ym rfl) <| Zgs rfl rfl (fun h34 => ?_) (fun h34 => ?_)
    refine Zu' rfl rfl (decide_eq_true h34) rfl <| Zu' rfl rfl (decide_eq_true h34) rfl <| Zv (ypt' rfl (decide_eq_true h34) rfl) <| Zv (ym rfl) <| Zu rfl rfl rfl <| Zu rfl rfl rfl <| Zv (ypt rfl rfl) <| Zv (ym rfl) <| Zu rfl rfl rfl <| Zu rfl rfl rfl ?_
    refine Zu rfl rfl rfl <| Zu rfl rfl rfl <| Zuu rfl rfl <| Zuu rfl rfl <| Zuu rfl rfl <| Zuu rfl rfl <| Zu rfl rfl rfl <| Zv (ypt rfl rfl) <| Znl <| Znx ?_
    refine Zct rfl <| Zsr <| Zv (ya rfl) <| Znl <| Znx <| Zrt <| Zr1 <| Zr2 <| Zr1 <| Zre (.t rfl .n) hS [] 3 ?_ rfl rfl rfl
    rotate_left
    refine Zg' rfl rfl (decide_eq_false h34) <| Zv (ym rfl) <| Zg' rfl rfl (decide_eq_false h34) <| Zv (ylt rfl rfl) <| Zv (ypf' rfl (decide_eq_false h34) rfl) <| Zv (ym rfl) <| Zgs rfl rfl (fun h38 => ?_) (fun h38 => ?_)
    refine Zu' rfl rfl (decide_eq_true h38) rfl <| Zu' rfl rfl (decide_eq_true h38) rfl <| Zv (ypt' rfl (decide_eq_true h38) rfl) <| Zv (ym rfl) <| Zu rfl rfl rfl <| Zu rfl rfl rfl <| Zu rfl rfl rfl <| Zu rfl rfl rfl <| Zuu rfl rfl <| Zuu rfl rfl ?_
    refine Zuu rfl rfl <| Zuu rfl rfl <| Zu rfl rfl rfl <| Zv (ypt rfl rfl) <| Znl <| Znx <| Zct rfl <| Zsr <| Zv (ya rfl) <| Znl ?_
    refine Znx <| Zrt <| Zr1 <| Zr2 <| Zr1 <| Zre (.t rfl .n) hS [] 3 ?_ rfl rfl rfl
    rotate_left
    refine Zg' rfl rfl (decide_eq_false h38) <| Zv (ym rfl) <| Zg' rfl rfl (decide_eq_false h38) <| Zv (yge rfl rfl) <| Zv (ypf' rfl (decide_eq_false h38) rfl) <| Zv (ym rfl) <| Zgs rfl rfl (fun h42 => ?_) (fun h42 => ?_)
    refine Zu' rfl rfl (decide_eq_true h42) rfl <| Zu' rfl rfl (decide_eq_true h42) rfl <| Zu' rfl rfl (decide_eq_true h42) rfl <| Zu' rfl rfl (decide_eq_true h42) rfl <| Zuu rfl rfl <| Zuu rfl rfl <| Zuu rfl rfl <| Zuu rfl rfl <| Zu' rfl rfl (decide_eq_true h42) rfl <| Zv (ypt' rfl (decide_eq_true h42) rfl) ?_
    refine Znl <| Znx <| Zct rfl <| Zsr <| Zv (ya rfl) <| Znl <| Znx <| Zrt <| Zr1 <| Zr2 ?_
    refine Zr1 <| Zre (.t rfl .n) hS [] 3 ?_ rfl rfl rfl
    rotate_left
    refine Zg' rfl rfl (decide_eq_false h42) <| Zv (yf 1 rfl) <| Zg' rfl rfl (decide_eq_false h42) <| Zv (yd 1 rfl rfl rfl) <| Zg' rfl rfl (decide_eq_false h42) <| Zv (ynot rfl) <| Zg' rfl rfl (decide_eq_false h42) <| Zv (ym rfl) <| Zgb rfl rfl (fun h46 => ?_) (fun h46 => ?_)
    refine Zg' rfl rfl h46 <| Zv (yf 4 rfl) <| Zg' rfl rfl h46 <| Zv (yda 2 (m := 16) rfl rfl (msg_bs' _) (Enc.len ..)) <| Zg' rfl rfl h46 <| Zv (yb l115 rfl) <| Zg' rfl rfl h46 <| Zv (yneE bsER _ b16z rfl rfl) <| Zg' rfl rfl (decide_eq_false h42) <| Zv (ypt' rfl h46 rfl) ?_
    refine Zv (ypf' rfl (decide_eq_false h42) rfl) <| Znl <| Znx <| Zib rfl (fun h52 => ?_) (fun h52 => ?_)
    refine Zsr <| Zv (ya rfl) <| Znl <| Znx <| Zrt <| Zr1 <| Zr2 <| Zr1 <| Zre (.t rfl .n) hS [] 3 ?_ rfl rfl rfl
    rotate_left
    refine Zsk <| Znx <| Zex <| Zxx <| Znx <| Zsr <| Zv (ya rfl) <| Znl <| Znx <| Zrt ?_
    refine Zre (.t rfl .n) hS [] 3 ?_ rfl rfl rfl
    rotate_left
    refine Zu' rfl rfl h46 rfl <| Zu' rfl rfl h46 rfl <| Zu' rfl rfl h46 rfl <| Zu' rfl rfl h46 rfl <| Zg' rfl rfl (decide_eq_false h42) <| Zv (ypf' rfl h46 rfl) <| Zv (ypf' rfl (decide_eq_false h42) rfl) <| Znl <| Znx <| Zcf rfl ?_
    refine Zsk <| Znx <| Zex <| Zxx <| Znx <| Zsr <| Zv (ya rfl) <| Znl <| Znx <| Zrt ?_
    refine Zre (.t rfl .n) hS [] 3 ?_ rfl rfl rfl
    rotate_left
    all_goals (clear hS; simp_all [pk])
end Go.Proofs.YtpfijldkkfiooaaGreatDoor
namespace Go.Proofs.YtpfijldkkfiooaaGreatDoor
open Go
set_option maxRecDepth 4000
def netC (b : Nat) (most : Int) (q : List Msg) : HP := fun h => ∃ A cap, Sep [.blk b 191 [.slice A q.length cap, .int .i64 most], .hp (own msgE A cap q)] h
theorem net_op {b : Nat} {most : Int} {q : List Msg} : Op_ (netC b most q) fun K => ∀ A cap, K [.blk b 191 [.slice A q.length cap, .int .i64 most], .hp (own msgE A cap q)] := .mk fun G k h hh => by
  obtain ⟨A, cap, hs⟩ := hh
  exact ⟨_, k A cap, hs⟩
theorem net_fold {b cap n : Nat} {most : Int} {A : Option Addr} {q : List Msg} (hn : n = q.length) : ∀ h, Sep [.blk b 191 [.slice A n cap, .int .i64 most], .hp (own msgE A cap q)] h → netC b most q h := fun _ hs => ⟨A, cap, hn ▸ hs⟩
theorem c79 (b : Nat) (most : Int) (q : List Msg) (h0 : most ≠ 0 := by assumption) : Sp Tryz.prog 79 [.pointer (some ⟨b, 0, none⟩)] [.hp (netC b most q)] fun K => K (.returned (.bool false)) [.hp (netC b most q)] := by
  refine Zen Tryz.func79 rfl rfl rfl fun e X Φ hS => Zsr <| Zv (ya rfl) <| Znl <| Znx <| Zsr <| Zv (ym rfl) <| Zv (ypeq rfl rfl rfl) <| Zv (ym rfl) <| Zg rfl rfl ?_
  refine Zv (ym rfl) <| Zg rfl rfl <| Zv (yn rfl) <| Zg rfl rfl <| Zv (yf 1 rfl) <| Zg rfl rfl ?_
  refine Zol 0 net_op rfl <| fun A cap => Zv (yd 0 rfl rfl rfl) <| Zg rfl rfl <| Zv (yeq rfl rfl) <| Zv (ypf rfl rfl) <| Zv (ya rfl) <| Znl <| Znx <| Zrt ?_
  refine Zfx [0,0] (net_fold (q := q) rfl) rfl <| Zre (.t rfl .n) hS [0] 0 ?_ rfl rfl rfl
  simp [pk, h0]
theorem c72 (most : Int) (h : 1 ≤ most ∧ most ≤ 1024) : Sp Tryz.prog 72 [.int .i64 most] [] fun K => ∀ b, K (.returned (.tuple #[.pointer (some ⟨b, 0, none⟩), .int .i64 0])) [.hp (netC b most [])] := by
  refine Zen Tryz.func72 rfl rfl rfl fun e X Φ hS => Zsr <| Zv (ya rfl) <| Zv (ya rfl) <| Znl <| Znx <| Zsq <| Zsr <| Zv (ym rfl) <| Zv (ylt rfl rfl) ?_
  refine Zv (ym rfl) <| Zg' rfl rfl (decide_eq_false (by omega)) <| Zv (ym rfl) <| Zg' rfl rfl (decide_eq_false (by omega)) <| Zv (ygt rfl rfl) <| Zv (ypf' rfl (decide_eq_false (by omega)) rfl) <| Znl <| Znx <| Zcf' rfl (decide_eq_false (by omega)) <| Zsk ?_
  refine Znx <| Zsr <| Zv (ym rfl) <| Zv (yb l191 rfl) <| Ze (ebx rfl) fun b12 => Zw <| Zv (ya rfl) <| Zv (ya rfl) <| Znl <| Znx <| Zrt ?_
  refine Zix (fun _ hs => sep_nil (E := msgE) hs) ?_
  refine Zfx [1,0] (net_fold (b := b12) (q := []) rfl) rfl ?_
  refine Zre (.t rfl (.t rfl .n)) (hS b12) [0] 0 rfl rfl rfl rfl
theorem c117 (b : Nat) (most : Int) (q : List Msg) (h0 : most ≠ 0 := by assumption) : Sp Tryz.prog 117 [.pointer (some ⟨b, 0, none⟩)] [.hp (netC b most q)] fun K => K (.returned (.int .i64 (q.length : Int))) [.hp (netC b most q)] := by
  refine Zen Tryz.func117 rfl rfl rfl fun e X Φ hS => Zsr <| Zv (ya rfl) <| Znl <| Znx <| Zsq <| Zsr <| Zv (ym rfl) <| Zk (c79 ..) [0] rfl rfl <| Zq ?_
  refine Znl <| Znx <| Zcf rfl <| Zsk <| Znx <| Zsr <| Zv (ym rfl) <| Zv (yn rfl) <| Zv (yf 0 rfl) ?_
  refine Zol 0 net_op rfl <| fun A cap => Zv (yd 0 rfl rfl rfl) <| Zv (sl_of ⟨_, Tryz.underlying112⟩ rfl) <| Zv (ya rfl) <| Znl <| Znx <| Zrt ?_
  refine Zfx [0,0] (net_fold (q := q) rfl) rfl <| Zre (.t rfl .n) hS [0] 0 rfl rfl rfl rfl
theorem c123 (c : Ck) (A : Option Addr) (cap : Nat) (q : List Msg) (hR : Rd msgE c A cap q) (hA : A = none → q = [] ∧ cap = 0) (hl : q.length ≤ 1048576) : Sp Tryz.prog 123 [.slice A q.length cap] [c] fun K => ∀ A' cap', K (.returned (.slice A' q.length cap')) [.hp (own msgE A' cap' q), c] := by
  cases A with
  | none =>
    obtain ⟨rfl, rfl⟩ := hA rfl
    refine Zen Tryz.func123 rfl rfl rfl fun e X Φ hS => Zsr <| Zv (ya rfl) <| Znl <| Znx <| Zsq <| Zsr <| Zv (ym rfl) <| Zv (ysleq ⟨_, Tryz.underlying112⟩ rfl rfl) <| Znl ?_
    refine Znx <| Zct rfl <| Zsr <| Zv (ya rfl) <| Znl <| Znx <| Zrt <| Zr1 ?_
    refine Zix (fun _ hs => sep_nil (E := msgE) hs) ?_
    refine Zre (.t rfl .n) (hS none 0) [0,0] 0 rfl rfl rfl rfl
  | some a =>
    refine Zen Tryz.func123 rfl rfl rfl fun e X Φ hS => Zsr <| Zv (ya rfl) <| Znl <| Znx <| Zsq <| Zsr <| Zv (ym rfl) <| Zv (ysleq ⟨_, Tryz.underlying112⟩ rfl rfl) <| Znl ?_
    refine Znx <| Zcf rfl <| Zsk <| Znx <| Zsr ?_
    refine Ze (eb0' elMsg) <| fun B => Zw <| Zv (ym rfl) ?_
    have hm : ([] : List Msg).length + q.length ≤ maxLen := ml_le (by simp; omega)
    refine Ze (eap' 0 1 elMsg rfl rfl rfl hR rfl rfl rfl (fun _ _ => rfl) (by simp; omega) hm) <| fun A' cap' => Zw <| Zv (ya rfl) <| Znl <| Znx <| Zrt ?_
    refine Zre (.t rfl .n) (hS A' cap') [0,0] 0 rfl rfl rfl rfl
theorem c79o (b cap n : Nat) (most : Int) (A : Option Addr) (h0 : most ≠ 0 := by assumption) : Sp Tryz.prog 79 [.pointer (some ⟨b, 0, none⟩)] [.blk b 191 [.slice A n cap, .int .i64 most]] fun K => K (.returned (.bool false)) [.blk b 191 [.slice A n cap, .int .i64 most]] := by
  refine Zen Tryz.func79 rfl rfl rfl fun e X Φ hS => Zsr <| Zv (ya rfl) <| Znl <| Znx <| Zsr <| Zv (ym rfl) <| Zv (ypeq rfl rfl rfl) <| Zv (ym rfl) <| Zg rfl rfl ?_
  refine Zv (ym rfl) <| Zg rfl rfl <| Zv (yn rfl) <| Zg rfl rfl <| Zv (yf 1 rfl) <| Zg rfl rfl <| Zv (yd 0 rfl rfl rfl) <| Zg rfl rfl <| Zv (yeq rfl rfl) <| Zv (ypf rfl rfl) ?_
  refine Zv (ya rfl) <| Znl <| Znx <| Zrt <| Zre (.t rfl .n) hS [0] 0 ?_ rfl rfl rfl
  simp [pk, h0]
theorem c80 (b cap : Nat) (most : Int) (A : Option Addr) (q : List Msg) (hA : A = none → q = [] ∧ cap = 0 := by assumption) (h0 : most ≠ 0 := by assumption) (hl : q.length ≤ 1048576 := by assumption) : Sp Tryz.prog 80 [.pointer (some ⟨b, 0, none⟩)] [.blk b 191 [.slice A q.length cap, .int .i64 most], .hp (own msgE A cap q)] fun K => ∀ A' cap', K (.returned (.slice A' q.length cap')) [.hp (own msgE A' cap' q), .blk b 191 [.slice A q.length cap, .int .i64 most], .hp (own msgE A cap q)] := by
  refine Zen Tryz.func80 rfl rfl rfl fun e X Φ hS => Zsr <| Zv (ya rfl) <| Znl <| Znx <| Zsq <| Zsr <| Zv (ym rfl) ?_
  refine Zk (c79o b cap q.length most A) [0] rfl rfl <| Zq <| Znl <| Znx <| Zcf rfl <| Zsk <| Znx <| Zsr <| Zv (ym rfl) <| Zv (yn rfl) ?_
  refine Zv (yf 0 rfl) <| Zv (yd 0 rfl rfl rfl) ?_
  refine Zk (c123 _ A cap q own.rd hA hl) [1] rfl rfl <| fun A' => fun cap' => Zq <| Zv (ya rfl) <| Znl <| Znx <| Zrt ?_
  refine Zre (.t rfl .n) (hS A' cap') [0,1,0] 0 rfl rfl rfl rfl
theorem pick_lt (pick : Int) {n : Nat} (h : 0 < n) : Int.tmod (Int.tmod pick n + n) n = ((pickAt pick n : Nat) : Int) ∧ pickAt pick n < n ∧ -(n : Int) < Int.tmod pick n ∧ Int.tmod pick n < n := by
  have h1 : -(n : Int) < Int.tmod pick n := Int.lt_tmod_of_pos _ (by omega)
  have h2 : Int.tmod pick n < n := Int.tmod_lt_of_pos _ (by omega)
  have h3 : 0 ≤ Int.tmod (Int.tmod pick n + n) n := Int.tmod_nonneg _ (by omega)
  have h4 : Int.tmod (Int.tmod pick n + n) n < n := Int.tmod_lt_of_pos _ (by omega)
  unfold pickAt
  exact ⟨by omega, by omega, h1, h2⟩
theorem c39 (b : Nat) (most : Int) (q : List Msg) (h0 : most ≠ 0 := by assumption) (hl : q.length ≤ 1048576 := by assumption) : Sp Tryz.prog 39 [.pointer (some ⟨b, 0, none⟩)] [.hp (netC b most q)] fun K => ∀ b', K (.returned (.pointer (some ⟨b', 0, none⟩))) [.hp (netC b' most q), .hp (netC b most q)] := by
  refine Zen Tryz.func39 rfl rfl rfl fun e X Φ hS => Zoc 0 net_op rfl <| fun A cap => Zoc 1 own_len rfl <| fun hA hcp hcm => Zsr <| Zv (ya rfl) <| Znl <| Znx <| Zsq <| Zsr <| Zv (ym rfl) ?_
  refine Zk (c79o b cap q.length most A) [1] rfl rfl <| Zq <| Znl <| Znx <| Zcf rfl <| Zsk <| Znx <| Zsq <| Zhd [] rfl rfl <| Zht 0 rfl (ym rfl) ?_
  refine Zht 2 rfl (ym rfl) <| Zht 3 rfl (yn rfl) <| Zht 4 rfl (yf 1 rfl) <| Zht 5 rfl (yd 0 rfl rfl rfl) <| Zh1 1 (by kernel_rfl) <| Zok (c80 ..) [0,0] rfl rfl rfl <| fun A' => fun cap' => Zqh 1 rfl <| Zht 6 rfl (yb l191 rfl) <| Zh1 7 (by kernel_rfl) <| Zoe rfl (ebx rfl) fun b12 => Zwh 2 rfl ?_
  refine Zht 8 rfl (ya rfl) <| Zhn (by kernel_rfl) <| Znx <| Zrt ?_
  refine Zfx [0,0] (net_fold (b := b12) (q := q) rfl) rfl ?_
  refine Zfx [1,1] (net_fold (b := b) (q := q) rfl) rfl ?_
  refine Zre (.t rfl .n) (hS b12) [1,0] 0 rfl rfl rfl rfl
def sendF (most : Int) (q : List Msg) (m : Msg) : List Msg × Int := if chk m ≠ 0 then (q, chk m) else if most ≤ q.length then (q, 210) else (q ++ [m], 0)
theorem c183 (b : Nat) (most : Int) (q : List Msg) (m : Msg) (h0 : most ≠ 0 := by assumption) (hl : q.length ≤ 1048576 := by assumption) : Sp Tryz.prog 183 [.pointer (some ⟨b, 0, none⟩), .agg (msgE.arr m)] [.hp (netC b most q)] fun K => K (.returned (.int .i64 (sendF most q m).2)) [.hp (netC b most (sendF most q m).1)] := by
  refine Zen Tryz.func183 rfl rfl rfl fun e X Φ hS => Zoc 0 net_op rfl <| fun A cap => Zoc 1 own_len rfl <| fun hA hcp hcm => Zsr <| Ze (ebxE rfl) fun b3 => Zw <| Zv (ya rfl) <| Znl <| Znx <| Zsq <| Zsr <| Zv (ym rfl) ?_
  refine Zk (c79o b cap q.length most A) [2] rfl rfl <| Zq <| Znl <| Znx <| Zcf rfl <| Zsk <| Znx <| Zsq <| Zsr <| Zv (ydw 1 (m := 20) rfl rfl (Enc.len ..)) ?_
  refine Zk (c190 ..) [] rfl rfl <| Zq <| Zv (ya rfl) <| Znl <| Znx <| Zsr <| Zv (ym rfl) <| Zv (yne rfl rfl) <| Znl <| Znx ?_
  refine Zif rfl (fun h11 => ?_) (fun h11 => ?_)
  refine Zsr <| Zv (ym rfl) <| Zv (ya rfl) <| Znl <| Znx <| Zrt <| Zr1 ?_
  rotate_left
  refine Zsk <| Znx <| Zsq <| Zsq <| Zhd [] rfl rfl <| Zht 0 rfl (ym rfl) <| Zht 1 rfl (yn rfl) <| Zht 2 rfl (yf 0 rfl) <| Zht 3 rfl (yd 0 rfl rfl rfl) <| Zht 4 rfl (sl_of ⟨_, Tryz.underlying112⟩ rfl) ?_
  refine Zht 5 rfl (ym rfl) <| Zht 6 rfl (yn rfl) <| Zht 7 rfl (yf 1 rfl) <| Zht 8 rfl (yd 0 rfl rfl rfl) <| Zht 9 rfl (yge rfl rfl) <| Zhn (by kernel_rfl) <| Znx <| Zif rfl (fun h22 => ?_) (fun h22 => ?_)
  refine Zsr <| Zv (ya rfl) <| Znl <| Znx <| Zrt <| Zr1 ?_
  rotate_left
  refine Zsk <| Znx <| Zsq ?_
  rotate_left
  · have e1 : sendF most q m = (q, chk m) := if_pos h11
    rw [e1] at hS
    refine Zfx [0,1] (net_fold (b := b) (q := q) rfl) rfl <| Zre (.t rfl .n) hS [0] 1 rfl rfl rfl rfl
  · have e1 : sendF most q m = (q, 210) := (if_neg h11).trans (if_pos h22)
    rw [e1] at hS
    refine Zfx [0,1] (net_fold (b := b) (q := q) rfl) rfl <| Zre (.t rfl .n) hS [0] 1 rfl rfl rfl rfl
  · have e1 : sendF most q m = (q ++ [m], 0) := (if_neg h11).trans (if_neg h22)
    rw [e1] at hS
    refine Zhf 8 [2] rfl rfl <| Zht 0 rfl (ym rfl) <| Zht 1 rfl (ym rfl) <| Zht 2 rfl (yn rfl) <| Zht 3 rfl (yf 0 rfl) <| Zht 4 rfl (yd 0 rfl rfl rfl) <| Zht 5 rfl (ydw 1 (m := 20) rfl rfl (Enc.len ..)) ?_
    refine Zh1 6 (by kernel_rfl) <| Zoe rfl (eb1 elMsg (by decide) rfl) <| fun B => Zwh 2 rfl ?_
    have hm : q.length + [m].length ≤ maxLen := by show q.length + 1 ≤ maxLen; exact Nat.le_trans (Nat.succ_le_succ hl) (by decide)
    refine Zh1 7 (by kernel_rfl) <| Zoe rfl (eap' 1 0 elMsg rfl rfl rfl own.rd rfl rfl rfl (fun _ _ => rfl) (by simp; omega) hm) <| fun A' cap' => Zwh 2 rfl <| Zhn (by kernel_rfl) <| Ztl rfl <| Ztv (yn rfl) <| Ztv (yf 0 rfl) <| Zte (es 2 rfl rfl rfl rfl rfl) <| Ztw <| Ztn <| Znx <| Zsr <| Zv (ya rfl) ?_
    refine Znl <| Znx <| Zrt ?_
    refine Zfx [2,1] (net_fold (b := b) (q := q ++ [m]) rfl) rfl <| Zre (.t rfl .n) hS [0] 2 rfl rfl rfl rfl
def delF (q : List Msg) (k : Nat) : List Msg := q.take k ++ q.drop (k + 1)
theorem c141 (b : Nat) (most pick : Int) (q : List Msg) (h0 : most ≠ 0 := by assumption) (hl : q.length ≤ 1048576 := by assumption) (hp : -9223372036854775808 ≤ pick ∧ pick ≤ 9223372036854775807) : Sp Tryz.prog 141 [.pointer (some ⟨b, 0, none⟩), .int .i64 pick] [.hp (netC b most q)] fun K => (q = [] → K (.returned (.tuple #[.agg (msgE.arr msg0), .bool false])) [.hp (netC b most [])]) ∧ (∀ m, q[pickAt pick q.length]? = some m → K (.returned (.tuple #[.agg (msgE.arr m), .bool true])) [.hp (netC b most (delF q (pickAt pick q.length)))]) := by
  refine Zen Tryz.func141 rfl rfl rfl fun e X Φ hS => Zsr <| Ze (eal z117) fun b4 => Zw <| Zv (ya rfl) <| Znl <| Znx <| Zsr <| Zv (ym rfl) <| Zk (c117 ..) [1] rfl rfl <| Zq ?_
  refine Zv (ya rfl) <| Znl <| Znx <| Zsq <| Zsr <| Zv (ym rfl) <| Zv (yeq rfl rfl) <| Znl <| Znx <| Zif rfl (fun h12 => ?_) (fun h12 => ?_)
  refine Zsr <| Zv (yb l117 rfl) <| Ze (esw 1 (m := 20) rfl rfl rfl rfl rfl rfl rfl) <| Zw0 <| Zv (ya rfl) <| Znl <| Znx <| Zrt <| Zr1 ?_
  rotate_left
  refine Zsk <| Znx <| Zsr <| Zv (ym rfl) <| Zv (ym rfl) <| Zv (yrem rfl rfl (by assumption) rfl) <| Zv (ym rfl) <| Zv (yadd rfl rfl rfl) <| Zv (ym rfl) <| Zv (yrem rfl rfl (by assumption) rfl) ?_
  refine Zv (ya rfl) <| Znl <| Znx <| Zsr <| Zv (ym rfl) <| Zv (yn rfl) <| Zv (yf 0 rfl) ?_
  rotate_left
  · have hq : q = [] := List.length_eq_zero_iff.1 (by omega)
    subst hq
    refine Zre (.wh 1 (m := 20) rfl rfl rfl (.t rfl .n)) (hS.1 rfl) [0] 1 rfl rfl rfl rfl
  · have hn : (q.length : Int) ≠ 0 := h12
    obtain ⟨p1, p2, p3, p4⟩ := pick_lt pick (n := q.length) (by omega)
    have e1 : IntKind.i64.wrap (pick.tmod q.length + q.length) = pick.tmod q.length + q.length := i64w rfl (by omega)
    rw [e1, p1]
    refine Zol 0 net_op rfl <| fun A cap => Zol 1 own_len rfl <| fun hA hcp hcm => Zv (yd 1 rfl rfl rfl) <| Zv (ym rfl) <| Zv (yea 0 own.rd rfl rfl rfl (by first | assumption | omega) rfl Tryz.underlying112 rfl) <| Zv (yel 0 own.rd rfl (gE (by first | assumption | omega)) rfl rfl rfl) <| Ze (eal z117) fun b8 => Zw <| Ze (esw 0 (m := 20) rfl rfl rfl rfl rfl (Enc.len ..) (Enc.allL ..)) <| Zw0 <| Znl <| Znx <| Zsq ?_
    refine Zhf 16 [1] rfl rfl <| Zht 0 rfl (ym rfl) <| Zht 1 rfl (ym rfl) <| Zht 2 rfl (yn rfl) <| Zht 3 rfl (yf 0 rfl) <| Zht 4 rfl (yd 1 rfl rfl rfl) <| Zht 5 rfl (ym rfl) <| Zht 6 rfl (ym rfl) <| Zht 8 rfl (ym rfl) <| Zht 9 rfl (yn rfl) ?_
    refine Zht 10 rfl (yf 0 rfl) <| Zht 11 rfl (yd 1 rfl rfl rfl) <| Zht 12 rfl (ym rfl) <| Zht 13 rfl (yadd rfl rfl (i64w rfl (by omega))) ?_
    refine Zht 7 rfl (yslp 20 Tryz.underlying112 rfl rfl rfl (by omega)) ?_
    refine Zht 14 rfl (ysld (j := pickAt pick q.length + 1) 20 Tryz.underlying112 rfl rfl (by omega)) ?_
    refine Zh1 15 (by kernel_rfl) <| Zoe rfl (edel 0 (pickAt pick q.length) elMsg rfl rfl rfl p2 (fun _ _ => rfl) (by omega) (ml_le hl)) <| fun A' cap' => Zwh 1 rfl <| Zhn (by kernel_rfl) <| Ztl rfl <| Ztv (yn rfl) <| Ztv (yf 0 rfl) <| Zte (es 2 rfl rfl rfl rfl rfl) <| Ztw <| Ztn <| Znx <| Zsr <| Zv (ydw 1 (m := 20) rfl rfl (Enc.len ..)) ?_
    refine Ze (esw 3 (m := 20) rfl rfl rfl rfl rfl (Enc.len ..) (Enc.allL ..)) <| Zw0 <| Zv (ya rfl) <| Znl <| Znx <| Zrt ?_
    refine Zfx [2,0] (net_fold (b := b) (q := delF q (pickAt pick q.length)) (by unfold delF; simp; omega)) rfl ?_
    refine Zre (.wh 2 (m := 20) rfl rfl (Enc.len ..) (.t rfl .n)) (hS.2 _ (gE p2)) [0] 2 rfl rfl rfl rfl
end Go.Proofs.YtpfijldkkfiooaaGreatDoor
namespace Go.Proofs.YtpfijldkkfiooaaGreatDoor
open Go
set_option maxRecDepth 4000
theorem c259 (A : Option Addr) (cap k : Nat) (l : List Ln) (hk : k < l.length) (hcp : l.length ≤ cap) (hl : l.length ≤ 1048576) : Sp Tryz.prog 259 [.slice A l.length cap, .int .i64 (k : Int), .int .i64 ((k : Int) + 1)] [.hp (own lnE A cap l)] fun K => K (.returned (.slice A (l.length - 1) cap)) [.hp (own lnE A cap (l.take k ++ l.drop (k + 1)))] := by
  refine Zen Tryz.func259 rfl rfl rfl fun e X Φ hS => Zsr <| Zv (ya rfl) <| Znl <| Znx <| Zsr <| Zv (ym rfl) <| Zv (ym rfl) <| Zv (ym rfl) <| Zv (ym rfl) ?_
  refine Zv (sl_of ⟨_, Tryz.underlying79⟩ rfl) ?_
  refine Zv (yslf (i := k) (j := k + 1) (m := l.length) 18 Tryz.underlying79 rfl rfl rfl rfl (by omega) (by omega) (by omega) rfl rfl) <| Znl <| Znx <| Zsq <| Zsr <| Zv (ym rfl) <| Zv (ym rfl) <| Zv (yeq rfl rfl) <| Znl <| Znx ?_
  refine Zcf' rfl (decide_eq_false (by omega)) <| Zsk <| Znx <| Zsr <| Zv (ym rfl) <| Zv (sl_of ⟨_, Tryz.underlying79⟩ rfl) <| Zv (ya rfl) <| Znl <| Znx <| Zsq ?_
  refine Zhd [0] rfl rfl <| Zht 0 rfl (ym rfl) <| Zht 1 rfl (ym rfl) <| Zht 3 rfl (ym rfl) <| Zht 4 rfl (ym rfl) ?_
  refine Zht 2 rfl (yslt (j := k) 18 Tryz.underlying79 rfl rfl (by omega)) ?_
  refine Zht 5 rfl (ysld (j := k + 1) 18 Tryz.underlying79 rfl rfl (by omega)) ?_
  refine Zh1 6 (by kernel_rfl) <| Zoe rfl (edeli 0 k elLn rfl rfl rfl hk rfl) <| Zwh 1 rfl <| Zht 7 rfl (ya rfl) <| Zhn (by kernel_rfl) <| Znx <| Zsr <| Zv (ym rfl) <| Zv (ym rfl) <| Zv (sl_of ⟨_, Tryz.underlying79⟩ rfl) <| Zv (ym rfl) ?_
  refine Zv (yslm (i := l.length - 1) (j := l.length) 18 Tryz.underlying79 rfl rfl rfl (by omega) (by omega)) ?_
  have hlen : (l.take k ++ l.drop (k + 1)).length = l.length - 1 := by simp; omega
  refine Ze (eclr 0 elLn (z := .agg (lnE.arr ln0)) (by kernel_rfl) (lnE.size _) (lnE.all _) rfl rfl (by omega) (by omega)) <| fun v => Zw0 <| Znl <| Znx <| Zsr <| Zv (ym rfl) <| Zv (ya rfl) <| Znl <| Znx <| Zrt <| Zre (.t rfl .n) hS [0] 0 rfl rfl rfl rfl
theorem c233 (b n : Nat) (ways num : Int) (L : List Ln) (hw : ways ≠ 0) (hn : 0 ≤ num ∧ num < 4294967296) (hu : Uniq L) (hl : L.length ≤ 1048576) : Sp Tryz.prog 233 [.pointer (some ⟨b, 0, none⟩), .int .u32 num] [.hp (linesC b n ways L)] fun K => K (.returned (.bool (getN L num).isSome)) [.hp (linesC b n ways (dropL L num))] := by
  refine Zen Tryz.func233 rfl rfl rfl fun e X Φ hS => Zoc 0 (lines_op (si n num) si_lt) rfl <| fun h0 h64 hi g cells A cap R hc hcl hB => Zsr <| Zv (ya rfl) <| Znl <| Znx <| Zsq <| Zsr <| Zv (ym rfl) <| Zk (c124 ..) [0] rfl rfl <| Zq ?_
  refine Znl <| Znx <| Zcf rfl <| Zsk <| Znx <| Zsr <| Zv (ym rfl) <| Zv (ym rfl) ?_
  have hlo : (ofs n L (si n num)).length ≤ 1048576 := Nat.le_trans (ofs_le L) hl
  have hg := ofs_get (n := n) L num
  rcases fnd_spec (ofs n L (si n num)) num with ⟨hf, hall⟩ | ⟨k, hf, hk, hx, hall⟩
  · have h2 := (hg.symm.trans (fnd_none ⟨hf, hall⟩))
    have hd : dropL L num = L := rem_no (get_none h2)
    rw [hd, h2] at hS
    refine Zk (c202 b n g cap ways num L cells A h0 h64 hn hlo hc hcl) [0,0,0] rfl rfl <| Zq <| Zv (ym rfl) <| Zv (yx rfl rfl) <| Zv (yx rfl rfl) <| Zv (ya rfl) <| Zv (ya rfl) <| Znl <| Znx <| Zsq ?_
    refine Zsr <| Zv (ym rfl) <| Zv (ylt rfl rfl) <| Znl <| Znx <| Zct' rfl (decide_eq_true (by omega)) <| Zsr <| Zv (ya rfl) <| Znl <| Znx ?_
    refine Zrt <| Zr1 ?_
    refine Zfx [0,0,0,0] (hB.same hc) rfl <| Zre (.t rfl .n) hS [0] 0 rfl rfl rfl rfl
  · have h2 := hg.symm.trans (get_at hk hx hall)
    rw [h2] at hS
    refine Zk (c202 b n g cap ways num L cells A h0 h64 hn hlo hc hcl) [0,0,0] rfl rfl <| Zq <| Zv (ym rfl) <| Zv (yx rfl rfl) <| Zv (yx rfl rfl) <| Zv (ya rfl) <| Zv (ya rfl) <| Znl <| Znx <| Zsq ?_
    refine Zsr <| Zv (ym rfl) <| Zv (ylt rfl rfl) <| Znl <| Znx <| Zcf' rfl (decide_eq_false (by omega)) <| Zsk <| Znx <| Zsr <| Zv (ym rfl) ?_
    refine Zv (ym rfl) <| Zv (yn rfl) <| Zv (yd 1 rfl rfl hc) <| Zv (ym rfl) <| Zv (ym rfl) <| Zv (yadd rfl rfl (i64w rfl (by omega))) ?_
    rw [hf]
    refine Zol 2 own_len rfl <| fun hA hcp hcm => ?_
    refine Zk (c259 A cap k (ofs n L (si n num)) hk hcp hlo) [0] rfl rfl <| Zq <| Zv (yn rfl) ?_
    have er : (ofs n L (si n num)).take k ++ (ofs n L (si n num)).drop (k + 1) = ofs n (dropL L num) (si n num) := by
      rw [rem_at hk hx hall, remf_uniq (hu.ofs _), ofs_drop]
    have el : (ofs n L (si n num)).length - 1 = (ofs n (dropL L num) (si n num)).length := by
      rw [← er]
      simp
      omega
    rw [er, el]
    obtain ⟨cells', hput⟩ : ∃ cells', put cells (si n num) (.slice A (ofs n (dropL L num) (si n num)).length cap) = some cells' := ⟨_, put_set _ _ _ (by omega)⟩
    refine Ze (es 2 rfl rfl rfl hput rfl) <| Zw0 <| Znl <| Znx <| Zsr <| Zv (ya rfl) <| Znl <| Znx <| Zrt ?_
    refine Zfx [1,1,0,0] (hB (dropL L num) A cap cells' (fun j _ hne => ofs_drop_other L num hne) hput) rfl <| Zre (.t rfl .n) hS [0] 0 rfl rfl rfl rfl
theorem c254 (b n : Nat) (ways num pick : Int) (L : List Ln) (hw1 : 1 ≤ ways) (hn : 0 ≤ num ∧ num < 4294967296) (hp : -9223372036854775808 ≤ pick ∧ pick ≤ 9223372036854775807) (hl : L.length ≤ 1048576) : Sp Tryz.prog 254 [.pointer (some ⟨b, 0, none⟩), .int .u32 num, .int .i64 pick] [.hp (linesC b n ways L)] fun K => (∀ x, vicL n ways L num pick = some x → K (.returned (.tuple #[.agg (lnE.arr x), .bool true])) [.hp (linesC b n ways L)]) ∧ (vicL n ways L num pick = none → K (.returned (.tuple #[.agg (lnE.arr ln0), .bool false])) [.hp (linesC b n ways L)]) := by
  have hw : ways ≠ 0 := by omega
  refine Zen Tryz.func254 rfl rfl rfl fun e X Φ hS => Zoc 0 (lines_op (si n num) si_lt) rfl <| fun h0 h64 hi g cells A cap R hc hcl hB => Zsr <| Ze (eal z145) fun b6 => Zw <| Zv (ya rfl) <| Znl <| Znx <| Zsq <| Zsr <| Zv (ym rfl) <| Zk (c124 ..) [1] rfl rfl ?_
  refine Zq <| Znl <| Znx <| Zcf rfl <| Zsk <| Znx <| Zsr <| Zv (ym rfl) <| Zv (ym rfl) ?_
  have hlo : (ofs n L (si n num)).length ≤ 1048576 := Nat.le_trans (ofs_le L) hl
  have hg := ofs_get (n := n) L num
  have hfs := fnd_spec (ofs n L (si n num)) num
  refine Zk (c202 b n g cap ways num L cells A h0 h64 hn hlo hc hcl) [0,1,1] rfl rfl <| Zq <| Zv (ym rfl) <| Zv (yx rfl rfl) <| Zv (yx rfl rfl) <| Zv (ya rfl) <| Zv (ya rfl) <| Znl <| Znx <| Zsr ?_
  refine Zv (ym rfl) <| Zv (yn rfl) <| Zv (yd 1 rfl rfl hc) <| Zv (sl_of ⟨_, Tryz.underlying79⟩ rfl) <| Zv (ya rfl) <| Znl <| Znx <| Zsq <| Zsr <| Zv (ym rfl) ?_
  refine Zv (yge rfl rfl) <| Zv (ym rfl) <| Zgs rfl rfl (fun h25 => ?_) (fun h25 => ?_)
  refine Zu' rfl rfl (decide_eq_true h25) rfl <| Zu' rfl rfl (decide_eq_true h25) rfl <| Zu' rfl rfl (decide_eq_true h25) rfl <| Zu' rfl rfl (decide_eq_true h25) rfl <| Zu' rfl rfl (decide_eq_true h25) rfl <| Zu' rfl rfl (decide_eq_true h25) rfl <| Zv (ypt' rfl (decide_eq_true h25) rfl) <| Znl <| Znx <| Zct rfl ?_
  refine Zrt <| Zr1 ?_
  rotate_left
  refine Zg' rfl rfl (decide_eq_false h25) <| Zv (ym rfl) <| Zg' rfl rfl (decide_eq_false h25) <| Zv (ym rfl) <| Zg' rfl rfl (decide_eq_false h25) <| Zv (yn rfl) <| Zg' rfl rfl (decide_eq_false h25) <| Zv (yf 1 rfl) <| Zg' rfl rfl (decide_eq_false h25) <| Zv (yd 0 rfl rfl rfl) ?_
  refine Zg' rfl rfl (decide_eq_false h25) <| Zv (ylt rfl rfl) <| Zv (ypf' rfl (decide_eq_false h25) rfl) <| Znl <| Znx <| Zif rfl (fun h32 => ?_) (fun h32 => ?_)
  refine Zrt <| Zr1 ?_
  rotate_left
  refine Zsk <| Znx <| Zsq <| Zhe 12 rfl <| Zht 0 rfl (ym rfl) <| Zht 1 rfl (yn rfl) <| Zht 2 rfl (yd 1 rfl rfl hc) <| Zht 3 rfl (ym rfl) <| Zht 4 rfl (ym rfl) <| Zht 5 rfl (yrem rfl rfl (by omega) rfl) ?_
  refine Zht 6 rfl (ym rfl) <| Zht 7 rfl (yadd rfl rfl rfl) <| Zht 8 rfl (ym rfl) <| Zht 9 rfl (yrem rfl rfl (by omega) rfl) ?_
  rotate_left
  · have hv : vicL n ways L num pick = none := by
      rcases hfs with ⟨hf, _⟩ | ⟨k, hf, hk, hx, hall⟩
      · omega
      · exact if_neg fun h => by rw [← hg, get_at hk hx hall] at h; cases h.1
    refine Zfx [0,0,0,1] (hB.same hc) rfl ?_
    refine Zre (.wh 1 (m := 18) rfl rfl rfl (.t rfl .n)) (hS.2 hv) [0] 1 rfl rfl rfl rfl
  · have hv : vicL n ways L num pick = none := if_neg fun h => by omega
    refine Zfx [0,0,0,1] (hB.same hc) rfl ?_
    refine Zre (.wh 1 (m := 18) rfl rfl rfl (.t rfl .n)) (hS.2 hv) [0] 1 rfl rfl rfl rfl
  · have hno : getN L num = none := by
      rcases hfs with ⟨hf, hall⟩ | ⟨k, hf, hk, hx, hall⟩
      · exact hg.symm.trans (fnd_none ⟨hf, hall⟩)
      · omega
    have hlp : 0 < (ofs n L (si n num)).length := by omega
    have hv : vicL n ways L num pick = some ((ofs n L (si n num)).getD (pickAt pick (ofs n L (si n num)).length) ln0) := if_pos ⟨hno, by omega⟩
    obtain ⟨p1, p2, p3, p4⟩ := pick_lt pick hlp
    have e1 : IntKind.i64.wrap (pick.tmod (ofs n L (si n num)).length + (ofs n L (si n num)).length) = pick.tmod (ofs n L (si n num)).length + (ofs n L (si n num)).length := i64w rfl (by omega)
    have e2 : (ofs n L (si n num)).getD (pickAt pick (ofs n L (si n num)).length) ln0 = (ofs n L (si n num))[pickAt pick (ofs n L (si n num)).length] := by simp [List.getD, p2]
    rw [e2] at hv
    rw [e1, p1]
    refine Zht 10 rfl (yea 2 own.rd rfl rfl rfl (by first | assumption | omega) rfl Tryz.underlying79 rfl) <| Zht 11 rfl (yel 2 own.rd rfl (gE (by first | assumption | omega)) rfl rfl rfl) <| Zhn (by kernel_rfl) <| Ztl rfl <| Zte (esw 3 (m := 18) rfl rfl rfl rfl rfl (Enc.len ..) (Enc.allL ..)) <| Ztw <| Ztv (ya rfl) <| Ztn <| Znx <| Zrt ?_
    refine Zfx [0,0,0,1] (hB.same hc) rfl ?_
    refine Zre (.wh 1 (m := 18) rfl rfl (Enc.len ..) (.t rfl .n)) (hS.1 _ hv) [0] 1 rfl rfl rfl rfl
end Go.Proofs.YtpfijldkkfiooaaGreatDoor
namespace Go.Proofs.YtpfijldkkfiooaaGreatDoor
open Go
set_option maxRecDepth 4000
theorem sep_nils (m : Nat) {h : Hl} : Sep [] h → Sep ((List.replicate m (⟨none, 0, []⟩ : Row)).map rowC) h := fun hs => by
  induction m with
  | zero => exact hs
  | succ m ih => exact sep_nil (E := lnE) ih
theorem lines_new {b g n : Nat} {ways : Int} (h0 : 0 < n) (h64 : n ≤ 64) : ∀ h, Sep [.blk b 224 [.slice (some ⟨g, 0, none⟩) n n, .int .i64 ways], .blk g 79 (List.replicate n (.slice none 0 0))] h → linesC b n ways [] h := fun h hs =>
  ⟨h0, h64, g, List.replicate n ⟨none, 0, []⟩, by simp, fun j r hj => by
    have := List.getElem?_eq_some_iff.1 hj
    obtain ⟨hlt, he⟩ := this
    rw [List.getElem_replicate] at he
    rw [← he]
    rfl, by
    rw [List.map_replicate]
    exact hs.mapTl fun h hs => hs.mapTl fun h hs => by
      have := sep_nils n (h := h) hs
      exact this⟩
theorem c122 (n : Nat) (ways : Int) : Sp Tryz.prog 122 [.int .i64 (n : Int), .int .i64 ways] [] fun K => (rightB n ways = true → ∀ b, K (.returned (.tuple #[.pointer (some ⟨b, 0, none⟩), .int .i64 0])) [.hp (linesC b n ways [])]) ∧ (rightB n ways = false → K (.returned (.tuple #[.pointer none, .int .i64 2])) []) := by
  cases hr : rightB n ways with
  | true =>
    obtain ⟨r1, r2, r3, r4, r5⟩ := right_yes hr
    have r3' : ¬ IntKind.i64.wrap (BitVec.ofInt IntKind.i64.bits (n : Int) &&& BitVec.ofInt IntKind.i64.bits ((n : Int) - 1)).toNat ≠ 0 := r3
    refine Zen Tryz.func122 rfl rfl rfl fun e X Φ hS => Zsr <| Zv (ya rfl) <| Zv (ya rfl) <| Znl <| Znx <| Zsq <| Zsr <| Zv (ym rfl) <| Zv (ylt rfl rfl) ?_
    refine Zv (ym rfl) <| Zg' rfl rfl (decide_eq_false r1) <| Zv (ym rfl) <| Zg' rfl rfl (decide_eq_false r1) <| Zv (ygt rfl rfl) <| Zv (ypf' rfl (decide_eq_false r1) rfl) <| Zv (ym rfl) <| Zg' rfl rfl (decide_eq_false r2) <| Zv (ym rfl) <| Zg' rfl rfl (decide_eq_false r2) ?_
    refine Zv (ym rfl) <| Zg' rfl rfl (decide_eq_false r2) <| Zv (ysub rfl rfl (i64w rfl (by omega))) <| Zg' rfl rfl (decide_eq_false r2) <| Zv (yand rfl rfl rfl) <| Zg' rfl rfl (decide_eq_false r2) <| Zv (yne rfl rfl) <| Zv (ypf' rfl (decide_eq_false r2) rfl) <| Zv (ym rfl) <| Zg' rfl rfl (decide_eq_false r3') ?_
    refine Zv (ym rfl) <| Zg' rfl rfl (decide_eq_false r3') <| Zv (ylt rfl rfl) <| Zv (ypf' rfl (decide_eq_false r3') rfl) <| Zv (ym rfl) <| Zg' rfl rfl (decide_eq_false r4) <| Zv (ym rfl) <| Zg' rfl rfl (decide_eq_false r4) <| Zv (ygt rfl rfl) <| Zv (ypf' rfl (decide_eq_false r4) rfl) ?_
    refine Znl <| Znx <| Zcf' rfl (decide_eq_false r5) <| Zsk <| Znx <| Zsr <| Zv (ym rfl) ?_
    refine Ze (emkb (bytes := 24) (zv := .slice none 0 0) Tryz.underlying222 rfl rfl rfl (by omega) (ml_le (by omega))) <| fun g => Zw <| Zv (ym rfl) <| Zv (yb l224 rfl) <| Ze (ebx rfl) fun b31 => Zw <| Zv (ya rfl) <| Zv (ya rfl) <| Znl <| Znx <| Zrt ?_
    refine Zfx [0,0] (lines_new (b := b31) (by omega) (by omega)) rfl ?_
    refine Zre (.t rfl (.t rfl .n)) (hS.1 rfl b31) [0] 0 rfl rfl rfl rfl
  | false =>
    refine Zen Tryz.func122 rfl rfl rfl fun e X Φ hS => Zsr <| Zv (ya rfl) <| Zv (ya rfl) <| Znl <| Znx <| Zsq <| Zsr <| Zv (ym rfl) <| Zv (ylt rfl rfl) ?_
    refine Zv (ym rfl) <| Zgs rfl rfl (fun h8 => ?_) (fun h8 => ?_)
    refine Zu' rfl rfl (decide_eq_true h8) rfl <| Zu' rfl rfl (decide_eq_true h8) rfl <| Zv (ypt' rfl (decide_eq_true h8) rfl) <| Zv (ym rfl) <| Zu rfl rfl rfl <| Zu rfl rfl rfl <| Zu rfl rfl rfl <| Zu rfl rfl rfl <| Zu rfl rfl rfl <| Zv (ypt rfl rfl) ?_
    refine Zv (ym rfl) <| Zu rfl rfl rfl <| Zu rfl rfl rfl <| Zv (ypt rfl rfl) <| Zv (ym rfl) <| Zu rfl rfl rfl <| Zu rfl rfl rfl <| Zv (ypt rfl rfl) <| Znl <| Znx ?_
    refine Zct rfl <| Zsr <| Zv (ya rfl) <| Zv (ya rfl) <| Znl <| Znx <| Zrt <| Zr1 ?_
    rotate_left
    refine Zg' rfl rfl (decide_eq_false h8) <| Zv (ym rfl) <| Zg' rfl rfl (decide_eq_false h8) <| Zv (ygt rfl rfl) <| Zv (ypf' rfl (decide_eq_false h8) rfl) <| Zv (ym rfl) <| Zgs rfl rfl (fun h12 => ?_) (fun h12 => ?_)
    refine Zu' rfl rfl (decide_eq_true h12) rfl <| Zu' rfl rfl (decide_eq_true h12) rfl <| Zu' rfl rfl (decide_eq_true h12) rfl <| Zu' rfl rfl (decide_eq_true h12) rfl <| Zu' rfl rfl (decide_eq_true h12) rfl <| Zv (ypt' rfl (decide_eq_true h12) rfl) <| Zv (ym rfl) <| Zu rfl rfl rfl <| Zu rfl rfl rfl <| Zv (ypt rfl rfl) ?_
    refine Zv (ym rfl) <| Zu rfl rfl rfl <| Zu rfl rfl rfl <| Zv (ypt rfl rfl) <| Znl <| Znx <| Zct rfl <| Zsr <| Zv (ya rfl) <| Zv (ya rfl) ?_
    refine Znl <| Znx <| Zrt <| Zr1 ?_
    rotate_left
    refine Zg' rfl rfl (decide_eq_false h12) <| Zv (ym rfl) <| Zg' rfl rfl (decide_eq_false h12) <| Zv (ym rfl) <| Zg' rfl rfl (decide_eq_false h12) <| Zv (ysub rfl rfl (i64w rfl (by omega))) <| Zg' rfl rfl (decide_eq_false h12) <| Zv (yand rfl rfl rfl) <| Zg' rfl rfl (decide_eq_false h12) <| Zv (yne rfl rfl) ?_
    refine Zv (ypf' rfl (decide_eq_false h12) rfl) <| Zv (ym rfl) <| Zgs rfl rfl (fun h19 => ?_) (fun h19 => ?_)
    refine Zu' rfl rfl (decide_eq_true h19) rfl <| Zu' rfl rfl (decide_eq_true h19) rfl <| Zv (ypt' rfl (decide_eq_true h19) rfl) <| Zv (ym rfl) <| Zu rfl rfl rfl <| Zu rfl rfl rfl <| Zv (ypt rfl rfl) <| Znl <| Znx <| Zct rfl ?_
    refine Zsr <| Zv (ya rfl) <| Zv (ya rfl) <| Znl <| Znx <| Zrt <| Zr1 ?_
    rotate_left
    refine Zg' rfl rfl (decide_eq_false h19) <| Zv (ym rfl) <| Zg' rfl rfl (decide_eq_false h19) <| Zv (ylt rfl rfl) <| Zv (ypf' rfl (decide_eq_false h19) rfl) <| Zv (ym rfl) <| Zgs rfl rfl (fun h23 => ?_) (fun h23 => ?_)
    refine Zu' rfl rfl (decide_eq_true h23) rfl <| Zu' rfl rfl (decide_eq_true h23) rfl <| Zv (ypt' rfl (decide_eq_true h23) rfl) <| Znl <| Znx <| Zct rfl <| Zsr <| Zv (ya rfl) <| Zv (ya rfl) <| Znl ?_
    refine Znx <| Zrt <| Zr1 ?_
    rotate_left
    refine Zg' rfl rfl (decide_eq_false h23) <| Zv (ym rfl) <| Zg' rfl rfl (decide_eq_false h23) <| Zv (ygt rfl rfl) <| Zv (ypf' rfl (decide_eq_false h23) rfl) <| Znl <| Znx <| Zif rfl (fun h26 => ?_) (fun h26 => ?_)
    refine Zsr <| Zv (ya rfl) <| Zv (ya rfl) <| Znl <| Znx <| Zrt <| Zr1 ?_
    rotate_left
    refine Zsk <| Znx <| Zsr <| Zv (ym rfl) ?_
    rotate_left
    · refine Zre (.t rfl (.t rfl .n)) (hS.2 rfl) [] 0 rfl rfl rfl rfl
    · refine Zre (.t rfl (.t rfl .n)) (hS.2 rfl) [] 0 rfl rfl rfl rfl
    · refine Zre (.t rfl (.t rfl .n)) (hS.2 rfl) [] 0 rfl rfl rfl rfl
    · refine Zre (.t rfl (.t rfl .n)) (hS.2 rfl) [] 0 rfl rfl rfl rfl
    · refine Zre (.t rfl (.t rfl .n)) (hS.2 rfl) [] 0 rfl rfl rfl rfl
    · exact (right_no hr (by assumption) (by assumption) (by assumption) (by assumption) (by assumption)).elim
end Go.Proofs.YtpfijldkkfiooaaGreatDoor
namespace Go.Proofs.YtpfijldkkfiooaaGreatDoor
open Go
set_option maxRecDepth 4000
theorem c125 (c : Ck) (A : Option Addr) (cap : Nat) (q : List Ln) (hR : Rd lnE c A cap q) (hA : A = none → q = [] ∧ cap = 0) (hl : q.length ≤ 1048576) : Sp Tryz.prog 125 [.slice A q.length cap] [c] fun K => ∀ A' cap', K (.returned (.slice A' q.length cap')) [.hp (own lnE A' cap' q), c] := by
  cases A with
  | none =>
    obtain ⟨rfl, rfl⟩ := hA rfl
    refine Zen Tryz.func125 rfl rfl rfl fun e X Φ hS => Zsr <| Zv (ya rfl) <| Znl <| Znx <| Zsq <| Zsr <| Zv (ym rfl) <| Zv (ysleq ⟨_, Tryz.underlying79⟩ rfl rfl) <| Znl ?_
    refine Znx <| Zct rfl <| Zsr <| Zv (ya rfl) <| Znl <| Znx <| Zrt <| Zr1 ?_
    refine Zix (fun _ hs => sep_nil (E := lnE) hs) ?_
    refine Zre (.t rfl .n) (hS none 0) [0,0] 0 rfl rfl rfl rfl
  | some a =>
    refine Zen Tryz.func125 rfl rfl rfl fun e X Φ hS => Zsr <| Zv (ya rfl) <| Znl <| Znx <| Zsq <| Zsr <| Zv (ym rfl) <| Zv (ysleq ⟨_, Tryz.underlying79⟩ rfl rfl) <| Znl ?_
    refine Znx <| Zcf rfl <| Zsk <| Znx <| Zsr ?_
    refine Ze (eb0' elLn) <| fun B => Zw <| Zv (ym rfl) ?_
    have hm : ([] : List Ln).length + q.length ≤ maxLen := ml_le (by simp; omega)
    refine Ze (eap' 0 1 elLn rfl rfl rfl hR rfl rfl rfl (fun _ _ => rfl) (by simp; omega) hm) <| fun A' cap' => Zw <| Zv (ya rfl) <| Znl <| Znx <| Zrt ?_
    refine Zre (.t rfl .n) (hS A' cap') [0,0] 0 rfl rfl rfl rfl
end Go.Proofs.YtpfijldkkfiooaaGreatDoor
namespace Go.Proofs.YtpfijldkkfiooaaGreatDoor
open Go
set_option maxRecDepth 4000
def linesG (b g n : Nat) (ways : Int) (L : List Ln) : HP := fun h => 0 < n ∧ n ≤ 64 ∧ ∃ (rs : List Row), rs.length = n ∧ (∀ j r, rs[j]? = some r → r.l = ofs n L j) ∧ Sep (.blk b 224 [.slice (some ⟨g, 0, none⟩) n n, .int .i64 ways] :: .blk g 79 (rs.map Row.val) :: rs.map rowC) h
theorem lines_g {b n : Nat} {ways : Int} {L : List Ln} : Op_ (linesC b n ways L) fun K => 0 < n → n ≤ 64 → ∀ g, K [.hp (linesG b g n ways L)] := .mk fun G k h hh => by
  obtain ⟨hn, hn64, g, rs, hl, hr, hs⟩ := hh
  exact ⟨_, k hn hn64 g, sep_hp1 ⟨hn, hn64, rs, hl, hr, hs⟩⟩
theorem lines_ug {b g n : Nat} {ways : Int} {L : List Ln} : ∀ h, Sep [.hp (linesG b g n ways L)] h → linesC b n ways L h := fun h hs => by
  obtain ⟨h1, _, e1, _, _, ⟨hn, hn64, rs, hl, hr, hs⟩, _⟩ := hs
  exact ⟨hn, hn64, g, rs, hl, hr, hs.up e1⟩
def BkG (b n i : Nat) (ways : Int) (L : List Ln) (g : Nat) (cells : List Value) (R : HP) : Prop := ∀ L' A' cap' cells', (∀ j, j < n → j ≠ i → ofs n L' j = ofs n L j) → put cells i (.slice A' (ofs n L' i).length cap') = some cells' → ∀ h, Sep [.blk b 224 [.slice (some ⟨g, 0, none⟩) n n, .int .i64 ways], .blk g 79 cells', .hp (own lnE A' cap' (ofs n L' i)), .hp R] h → linesG b g n ways L' h
theorem linesG_op {b g n : Nat} {ways : Int} {L : List Ln} (i : Nat) (hi : i < n) : Op_ (linesG b g n ways L) fun K => ∀ cells A cap R, nth cells i = some (.slice A (ofs n L i).length cap) → cells.length = n → BkG b n i ways L g cells R → K [.blk b 224 [.slice (some ⟨g, 0, none⟩) n n, .int .i64 ways], .blk g 79 cells, .hp (own lnE A cap (ofs n L i)), .hp R] := .mk fun G k h hh => by
  obtain ⟨hn, hn64, rs, hl, hr, hs⟩ := hh
  have hir : i < rs.length := by omega
  have hri : rs[i]? = some rs[i] := gE hir
  have hri' := hr i _ hri
  have h1 := nth_map rowC hri
  obtain ⟨M, hM, _⟩ := Sep.at_ h1 (put_map rowC rs[i] hir)
  have hk := k (rs.map Row.val) rs[i].A rs[i].cap (Sep M) (by
    have := nth_map Row.val hri
    rw [this]
    unfold Row.val
    rw [hri']) (by simpa using hl) (by
    intro L' A' cap' cells' ho hp h hs'
    have hp' := put_map Row.val (⟨A', cap', ofs n L' i⟩ : Row) hir
    rw [show Row.val ⟨A', cap', ofs n L' i⟩ = .slice A' (ofs n L' i).length cap' from rfl] at hp'
    have := hp.symm.trans hp'
    cases this
    obtain ⟨M', hM', hback⟩ := Sep.at_ h1 (put_map rowC (⟨A', cap', ofs n L' i⟩ : Row) hir)
    have : M' = M := by
      rw [hM] at hM'
      cases hM'
      rfl
    subst this
    refine ⟨hn, hn64, rs.set i ⟨A', cap', ofs n L' i⟩, by simpa using hl, ?_, ?_⟩
    · intro j r hj
      by_cases hji : j = i
      · subst hji
        rw [List.getElem?_set_self hir] at hj
        cases hj
        rfl
      · rw [List.getElem?_set_ne (Ne.symm hji)] at hj
        have hjn : j < n := by
          have := (List.getElem?_eq_some_iff.1 hj).1
          omega
        rw [ho j hjn hji]
        exact hr j r hj
    · refine hs'.mapTl fun h hs => hs.mapTl fun h hs => hback h ?_
      refine hs.mapTl fun h hs => ?_
      have := Sep.flat hs
      simpa using this)
  refine ⟨_, hk, ?_⟩
  refine hs.mapTl fun h hs => hs.mapTl fun h hs => ?_
  have := Sep.pick hM hs
  refine Sep.hd (p := rowC rs[i]) ?_ fun h hh => ?_
  · refine this.mapTl fun h hs => ?_
    have hs2 : Sep (M ++ []) h := by simpa using hs
    exact hs2.unflat
  · show own lnE rs[i].A rs[i].cap (ofs n L i) h
    rw [← hri']
    exact hh
theorem BkG.same {b n i g : Nat} {ways : Int} {L : List Ln} {cells : List Value} {R : HP} {A : Option Addr} {cap : Nat} (h : BkG b n i ways L g cells R) (hc : nth cells i = some (.slice A (ofs n L i).length cap)) : ∀ h, Sep [.blk b 224 [.slice (some ⟨g, 0, none⟩) n n, .int .i64 ways], .blk g 79 cells, .hp (own lnE A cap (ofs n L i)), .hp R] h → linesG b g n ways L h := h L A cap cells (fun _ _ _ => rfl) (put_same hc)
theorem linesG_new {b g n : Nat} {ways : Int} (h0 : 0 < n) (h64 : n ≤ 64) : ∀ h, Sep [.blk b 224 [.slice (some ⟨g, 0, none⟩) n n, .int .i64 ways], .blk g 79 (List.replicate n (.slice none 0 0))] h → linesG b g n ways [] h := fun h hs =>
  ⟨h0, h64, List.replicate n ⟨none, 0, []⟩, by simp, fun j r hj => by
    have := List.getElem?_eq_some_iff.1 hj
    obtain ⟨hlt, he⟩ := this
    rw [List.getElem_replicate] at he
    rw [← he]
    rfl, by
    rw [List.map_replicate]
    exact hs.mapTl fun h hs => hs.mapTl fun h hs => by
      have := sep_nils n (h := h) hs
      exact this⟩
def upto (n j : Nat) (L : List Ln) : List Ln := L.filter fun x => decide (si n x.num < j)
theorem upto_zero (n : Nat) (L : List Ln) : upto n 0 L = [] := List.filter_eq_nil_iff.2 fun x _ => by simp
theorem upto_all {n : Nat} (h : 0 < n) (L : List Ln) : upto n n L = L := List.filter_eq_self.2 fun x _ => by simpa using si_lt h
theorem ofs_upto (n j i : Nat) (L : List Ln) : ofs n (upto n j L) i = if i < j then ofs n L i else [] := by
  unfold ofs upto
  rw [List.filter_filter]
  split
  · rename_i h
    congr 1
    funext x
    unfold inSet
    by_cases hx : si n x.num = i
    · simp [hx, h]
    · simp [hx]
  · rename_i h
    refine List.filter_eq_nil_iff.2 fun x _ => ?_
    unfold inSet
    simp
    omega
theorem c84 (b n : Nat) (ways : Int) (L : List Ln) (hw : ways ≠ 0) (hl : L.length ≤ 1048576) : Sp Tryz.prog 84 [.pointer (some ⟨b, 0, none⟩)] [.hp (linesC b n ways L)] fun K => ∀ b', K (.returned (.pointer (some ⟨b', 0, none⟩))) [.hp (linesC b' n ways L), .hp (linesC b n ways L)] := by
  refine Zen Tryz.func84 rfl rfl rfl fun e X Φ hS => Zoc 0 lines_g rfl <| fun h0 h64 g => Zoc 0 (linesG_op 0 h0) rfl <| fun cells A cap R hc hcl hB => Zsr <| Zv (ya rfl) <| Znl <| Znx <| Zsq <| Zsr <| Zv (ym rfl) <| Zk (c124 ..) [0] rfl rfl <| Zq ?_
  refine Znl <| Znx <| Zcf rfl <| Zsk <| Znx <| Zsq <| Zhd [] rfl rfl <| Zht 0 rfl (ym rfl) <| Zht 1 rfl (yn rfl) <| Zht 2 rfl (yf 0 rfl) ?_
  refine Zht 3 rfl (yd 0 rfl rfl rfl) <| Zht 4 rfl (sl_of ⟨_, Tryz.underlying222⟩ rfl) <| Zht 6 rfl (ym rfl) <| Zht 7 rfl (yn rfl) <| Zht 8 rfl (yf 1 rfl) <| Zht 9 rfl (yd 0 rfl rfl rfl) ?_
  refine Zh1 5 (by kernel_rfl) <| Zoe rfl (emkb (bytes := 24) (zv := .slice none 0 0) Tryz.underlying222 rfl rfl rfl (by omega) (ml_le (by omega))) <| fun g2 => Zwh 1 rfl <| Zht 10 rfl (yb l224 rfl) <| Zh1 11 (by kernel_rfl) <| Zoe rfl (ebx rfl) fun b19 => Zwh 2 rfl <| Zht 12 rfl (ya rfl) <| Zhn (by kernel_rfl) <| Znx <| Zsq <| Zsr <| Zv (ym rfl) <| Zv (yn rfl) ?_
  refine Zv (yf 0 rfl) <| Zv (yd 2 rfl rfl rfl) <| Zv (sl_of ⟨_, Tryz.underlying222⟩ rfl) <| Zv (ym rfl) <| Znl <| Znx <| Zbl ?_
  refine Zfc [0,0] (linesG_new (b := b19) h0 h64) rfl ?_
  refine Zfc [1,1,1,1] (hB.same hc) rfl ?_
  have hlo : ∀ j, (ofs n L j).length ≤ 1048576 := fun j => Nat.le_trans (ofs_le L) hl
  refine Zlq (ι := { i : Nat // i ≤ n }) (fun i => [(25, .int .i64 (i.1 : Int)), (24, .int .i64 (n : Int)), (23, .slice (some ⟨g, 0, none⟩) n n), (3, .pointer (some ⟨b19, 0, none⟩))]) (fun i => [.hp (linesG b19 g2 n ways (upto n i.1 L)), .hp (linesG b g n ways L)]) (fun i => n - i.1) ⟨0, by omega⟩ ⟨rfl, rfl, rfl, rfl, trivial⟩ [1, 0] (by rw [upto_zero]; rfl) fun i => Zsr <| Zv (ylt rfl rfl) <| Znl <| Znx <| Zsq <| Zif rfl (fun h26 => ?_) (fun h26 => ?_)
  refine Zsk <| Znx <| Zsq <| Zbl <| Zsr <| Zv (ym rfl) ?_
  rotate_left
  refine Zex <| Zxt <| Zxt <| Zxx <| Znx <| Zsr <| Zv (ym rfl) <| Zv (ya rfl) <| Znl <| Znx ?_
  refine Zrt ?_
  rotate_left
  · have hlt : i.1 < n := by omega
    refine Zol 1 (linesG_op i.1 hlt) rfl <| fun cells1 A1 cap1 R1 hc1 hcl1 hB1 => Zv (yeb (s := 1) (j := i.1) i.1 Tryz.underlying222 rfl rfl hlt (by omega)) <| Zv (yd 1 rfl rfl hc1) <| Zv (ya rfl) <| Zv (ya rfl) <| Znl <| Znx ?_
    refine Zoc 2 own_len rfl <| fun hA1 hcp1 hcm1 => Zoc 4 (linesG_op i.1 hlt) rfl <| fun cells2 A2 cap2 R2 hc2 hcl2 hB2 => ?_
    refine Zhf 8 [4,1] rfl rfl <| Zht 0 rfl (ym rfl) <| Zht 1 rfl (yn rfl) <| Zht 2 rfl (yf 0 rfl) <| Zht 3 rfl (yd 0 rfl rfl rfl) <| Zht 4 rfl (ym rfl) <| Zht 5 rfl (ym rfl) ?_
    refine Zh1 6 (by kernel_rfl) <| Zok (c125 _ A1 cap1 (ofs n L i.1) own.rd hA1 (hlo i.1)) [0] rfl rfl rfl <| fun A' => fun cap' => Zqh 3 rfl ?_
    refine Zht 7 rfl (yeb (s := 1) (j := i.1) i.1 Tryz.underlying222 rfl rfl hlt (by omega)) <| Zhn (by kernel_rfl) <| Ztl rfl ?_
    have e1 : (ofs n L i.1) = ofs n (upto n (i.1 + 1) L) i.1 := by rw [ofs_upto, if_pos (by omega)]
    obtain ⟨cells3, hput⟩ : ∃ cells3, put cells2 i.1 (.slice A' (ofs n L i.1).length cap') = some cells3 := ⟨_, put_set _ _ _ (by omega)⟩
    refine Zte (es 2 rfl rfl rfl hput rfl) <| Ztw <| Ztn <| Zxn <| Znx <| Zrg <| Zv (yadd rfl rfl (i64w rfl (by omega))) <| Zv (ym rfl) <| Znl ?_
    refine Zfx [6,6,1,5] (hB1.same hc1) rfl ?_
    rw [e1] at hput
    have hf := hB2 (upto n (i.1 + 1) L) A' cap' cells3 (fun j _ hj => by rw [ofs_upto, ofs_upto]; split <;> split <;> first | rfl | omega) hput
    rw [← e1] at hf
    refine Zfx [3,2,1,2] hf rfl ?_
    refine Zlr ⟨i.1 + 1, by omega⟩ (by show n - (i.1 + 1) < n - i.1; omega) ⟨rfl, rfl, rfl, rfl, trivial⟩ [0, 0] 1 rfl rfl
  · have hi := i.2
    rw [show i.1 = n by omega, upto_all h0]
    refine Zfx [0] (lines_ug (b := b19) (g := g2)) rfl ?_
    refine Zfx [1] (lines_ug (b := b) (g := g)) rfl ?_
    refine Zre (.t rfl .n) (hS b19) [1,0] 0 rfl rfl rfl rfl
theorem c61 (b n : Nat) (ways : Int) (L : List Ln) (hw : ways ≠ 0) (hl : L.length ≤ 1048576) : Sp Tryz.prog 61 [.pointer (some ⟨b, 0, none⟩)] [.hp (linesC b n ways L)] fun K => ∀ b1 b', K (.returned (.func (.func 107) #[] #[.pointer (some ⟨b1, 0, none⟩)])) [.blk b1 151 [.pointer (some ⟨b', 0, none⟩)], .hp (linesC b' n ways L), .hp (linesC b n ways L)] := by
  refine Zen Tryz.func61 rfl rfl rfl fun e X Φ hS => Zsr <| Ze (ebx rfl) fun b1 => Zw <| Zv (ya rfl) <| Znl <| Znx <| Zsr <| Zv (yd 0 rfl rfl rfl) ?_
  refine Zk (c84 b n ways L hw hl) [1] rfl rfl <| fun b' => Zq <| Ze (es 2 rfl rfl rfl rfl rfl) <| Zw0 <| Znl <| Znx <| Zsr <| Zv (yfn rfl rfl) <| Zv (ya rfl) <| Znl ?_
  refine Znx <| Zrt ?_
  refine Zre (.t rfl .n) (hS b1 b') [2,0,0] 0 rfl rfl rfl rfl
def allU (n i k : Nat) (L : List Ln) : List Ln := (List.range i).flatMap (ofs n L) ++ (ofs n L i).take k
theorem allU_zero (n : Nat) (L : List Ln) : allU n 0 0 L = [] := by simp [allU]
theorem allU_next {n i k : Nat} {L : List Ln} {x : Ln} (h : (ofs n L i)[k]? = some x) : allU n i k L ++ [x] = allU n i (k + 1) L := by
  unfold allU
  rw [List.append_assoc, take_snc h]
theorem allU_row {n i : Nat} {L : List Ln} : allU n i (ofs n L i).length L = allU n (i + 1) 0 L := by
  unfold allU
  rw [List.take_of_length_le (Nat.le_refl _), List.range_succ, List.flatMap_append]
  simp
theorem allU_all (n : Nat) (L : List Ln) : allU n n 0 L = allL n L := by simp [allU, allL]
theorem allU_pre {n i k : Nat} {L : List Ln} (hi : i < n) (_hk : k ≤ (ofs n L i).length) : allU n i k L <+: allL n L := by
  unfold allU allL
  have e : List.range n = List.range i ++ (i :: (List.range (n - i - 1)).map (· + (i + 1))) := by
    rw [show n = i + ((n - i - 1) + 1) by omega, List.range_add]
    congr 1
    rw [show i + (n - i - 1 + 1) - i - 1 = n - i - 1 by omega, List.range_succ_eq_map, List.map_cons, List.map_map]
    congr 1
    apply List.map_congr_left
    intro a _
    simp
    omega
  rw [e, List.flatMap_append, List.flatMap_cons]
  rw [List.prefix_append_right_inj]
  exact (List.take_prefix _ _).trans (List.prefix_append _ _)
theorem q107 (b b1 n : Nat) (ways : Int) (L : List Ln) (hl : L.length ≤ 1048576) : Sq Tryz.prog 107 [.pointer (some ⟨b1, 0, none⟩)] [.hp (linesC b n ways L), .blk b1 151 [.pointer (some ⟨b, 0, none⟩)]] (fun _ => []) (fun x => [.agg (lnE.arr x)]) (allL n L) := by
  refine ⟨fun y J Jx hYd => ?_⟩
  have hlo : ∀ j, (ofs n L j).length ≤ 1048576 := fun j => Nat.le_trans (ofs_le L) hl
  refine Zen Tryz.func107 rfl rfl rfl fun e X Φ hS => Zoc 1 lines_g rfl <| fun h0 h64 g => Zoc 0 (linesG_op 0 h0) rfl <| fun cells A cap R hc hcl hB => Zscp <| Zsq <| Zsr <| Zv (yd 5 rfl rfl rfl) <| Zv (ypeq rfl rfl rfl) <| Znl <| Znx <| Zcf rfl <| Zsk ?_
  refine Znx <| Zsq <| Zlb <| Znx <| Zsr <| Zv (yd 5 rfl rfl rfl) <| Zv (yn rfl) <| Zv (yf 0 rfl) <| Zv (yd 0 rfl rfl rfl) <| Zv (sl_of ⟨_, Tryz.underlying222⟩ rfl) ?_
  refine Zv (ym rfl) <| Znl <| Znx <| Zbl ?_
  refine Zfc [0,0,0,0] (hB.same hc) rfl ?_
  refine Zlq (ι := { i : Nat // i ≤ n }) (fun i => [(14, .int .i64 (i.1 : Int)), (13, .int .i64 (n : Int)), (12, .slice (some ⟨g, 0, none⟩) n n), (0, .func (.yield y) #[] #[])]) (fun i => [.hp (linesG b g n ways L), .hp (J (allU n i.1 0 L))]) (fun i => n - i.1) ⟨0, by omega⟩ ⟨rfl, rfl, rfl, rfl, trivial⟩ [0, 0] (by rw [allU_zero]; rfl) fun i => Zsr <| Zv (ylt rfl rfl) <| Znl <| Znx <| Zsq <| Zif rfl (fun h15 => ?_) (fun h15 => ?_)
  refine Zsk <| Znx <| Zsq <| Zbl <| Zsr ?_
  rotate_left
  refine Zex <| Zxt <| Zxt <| Zxx <| Zgn <| Zee ?_
  rotate_left
  · have hlt : i.1 < n := by omega
    have hlo' := hlo i.1
    refine Zol 0 (linesG_op i.1 hlt) rfl <| fun cells1 A1 cap1 R1 hc1 hcl1 hB1 => Zv (yeb (s := 1) (j := i.1) i.1 Tryz.underlying222 rfl rfl hlt (by omega)) <| Zv (yd 1 rfl rfl hc1) <| Zv (ya rfl) <| Znl <| Znx <| Zsr <| Zv (ym rfl) <| Zv (sl_of ⟨_, Tryz.underlying79⟩ rfl) <| Zv (ym rfl) <| Znl <| Znx ?_
    refine Zbl ?_
    refine Zlq (ι := { k : Nat // k ≤ (ofs n L i.1).length }) (fun k => [(20, .int .i64 (k.1 : Int)), (19, .int .i64 ((ofs n L i.1).length : Int)), (18, .slice A1 (ofs n L i.1).length cap1), (14, .int .i64 (i.1 : Int)), (13, .int .i64 (n : Int)), (12, .slice (some ⟨g, 0, none⟩) n n), (0, .func (.yield y) #[] #[])]) (fun k => [.hp (J (allU n i.1 k.1 L)), .hp (own lnE A1 cap1 (ofs n L i.1))]) (fun k => (ofs n L i.1).length - k.1) ⟨0, by omega⟩ ⟨rfl, rfl, rfl, rfl, rfl, rfl, rfl, trivial⟩ [4, 2] rfl fun k => Zsr <| Zv (ylt rfl rfl) <| Znl <| Znx <| Zsq <| Zif rfl (fun h21 => ?_) (fun h21 => ?_)
    refine Zsk <| Znx <| Zsq <| Zbl <| Zsr <| Zv (yea 1 own.rd rfl rfl rfl (by first | assumption | omega) rfl Tryz.underlying79 rfl) <| Zv (yel 1 own.rd rfl (gE (by first | assumption | omega)) rfl rfl rfl) <| Ze (eal z145) fun b6 => Zw <| Ze (esw 0 (m := 18) rfl rfl rfl rfl rfl (Enc.len ..) (Enc.allL ..)) <| Zw0 <| Znl ?_
    refine Znx <| Zsr <| Zv (ym rfl) <| Zv (ydw 0 (m := 18) rfl rfl (Enc.len ..)) ?_
    rotate_left
    refine Zex <| Zxt <| Zxt <| Zxx <| Zxn <| Znx <| Zrg <| Zv (yadd rfl rfl (i64w rfl (by omega))) <| Zv (ym rfl) <| Znl ?_
    rotate_left
    · have hk : k.1 < (ofs n L i.1).length := by omega
      have hx := allU_next (gE hk)
      have hp : allU n i.1 k.1 L ++ [(ofs n L i.1)[k.1]] <+: allL n L := by rw [hx]; exact allU_pre hlt hk
      refine Zyd (hYd _ _ hp) 1 rfl rfl rfl ?_ ?_
      refine Zv (ynot rfl) <| Znl <| Znx <| Zcf rfl <| Zsk <| Zxn <| Znx <| Zrg <| Zv (yadd rfl rfl (i64w rfl (by omega))) <| Zv (ym rfl) ?_
      refine Znl ?_
      rotate_left
      refine Zv (ynot rfl) <| Znl <| Znx <| Zct rfl <| Zex <| Zxb rfl <| Zxt <| Zxt <| Zxb rfl <| Zxb rfl ?_
      refine Zxt <| Zxt <| Zxx <| Zgn <| Zee ?_
      rotate_left
      · rw [hx]
        refine Zlr ⟨k.1 + 1, hk⟩ (by show (ofs n L i.1).length - (k.1 + 1) < (ofs n L i.1).length - k.1; omega) ⟨rfl, rfl, rfl, rfl, rfl, rfl, rfl, trivial⟩ [0, 1] 1 rfl rfl
      · refine Zre .n (hS.2 _ hp) [0] 6 rfl rfl rfl rfl
    · have hk : k.1 = (ofs n L i.1).length := by have := k.2; omega
      rw [hk, allU_row]
      refine Zfx [2,2,1,1] (hB1.same hc1) rfl ?_
      refine Zlr ⟨i.1 + 1, hlt⟩ (by show n - (i.1 + 1) < n - i.1; omega) ⟨rfl, rfl, rfl, rfl, trivial⟩ [0, 0] 0 rfl rfl
  · have hi := i.2
    rw [show i.1 = n by omega, allU_all]
    refine Zre .n hS.1 [1] 2 rfl rfl rfl rfl
theorem Sq.one {α : Type} {P : Program} {gf : Nat} {lb : List Value} {C : List Ck} {C' : List α → List Ck} {enc : α → List Value} {xs : List α} (h : Sq P gf lb C C' enc xs) : Sq P gf lb [.hp (Sep C)] C' enc xs := ⟨fun l J Jx hY => ⟨fun e X w Φ hp hS => (h.run l J Jx hY).run e X w Φ (hp.imp fun _ hs => hs.mapTl fun _ hs => hs.flat) hS⟩⟩
theorem c106 {gf : Nat} {lb : List Value} {c : Ck} {xs : List Ln} (hq : Sq Tryz.prog gf lb [c] (fun _ => []) (fun x => [.agg (lnE.arr x)]) xs) (hl : xs.length ≤ 1000000) (hf : callOk Tryz.prog gf = true) : Sp Tryz.prog 106 [.slice none 0 0, .func (.func gf) #[] lb.toArray] [c] fun K => ∀ A cap, K (.returned (.slice A xs.length cap)) [.hp (own lnE A cap xs)] := by
  refine ZenM Tryz.func106 rfl rfl rfl fun e X Φ hS => Zsr <| Ze (ebx rfl) fun b2 => Zw <| Zv (ya rfl) <| Znl <| Znx <| Zsq <| Zsr <| Zv (ym rfl) <| Znl ?_
  refine Znx <| Zbl ?_
  refine Zfc [0] (coll_nil (E := lnE) (bo := b2) (ts := 79)) rfl ?_
  refine Zrf hq (fun pre => [.hp (collC lnE b2 79 pre)]) (fun _ => True) (fun _ => []) (fun _ => False) (fun _ _ => []) (fun _ _ => False) [1,0] rfl rfl trivial (fun e' y pre x F hx _ => ?_) (fun D _ => ?_) (fun _ _ _ h => h.elim) (fun _ _ _ _ h => h.elim) (fun _ => rfl) (by decide)
  refine Zrg <| Ze (eal z145) fun b5 => Zw <| Ze (esw 0 (m := 18) rfl rfl rfl rfl rfl (Enc.len ..) (Enc.allL ..)) <| Zw0 <| Znl <| Zak 2 rfl fun F' => Zbl <| Zrg ?_
  rotate_left
  refine Zxn <| Znx <| Zsr ?_
  rotate_left
  · refine Zol 1 coll_op rfl <| fun A cap => Zv (yd 0 rfl rfl rfl) <| Zv (ydw 2 (m := 18) rfl rfl (Enc.len ..)) ?_
    have hlen := prefix_len hx
    have hm : pre.length + [x].length ≤ maxLen := ml_le (by simp; omega)
    refine Ze (eb1 (E := lnE) (p := x) elLn (by decide) rfl) <| fun B => Zw ?_
    refine Ze (eap' 2 0 elLn rfl rfl rfl own.rd rfl rfl rfl (fun _ _ => rfl) (by simp; omega) hm) <| fun A' cap' => Zw <| Ze (es 1 rfl rfl rfl rfl rfl) <| Zw0 <| Znl <| Zxn ?_
    refine Zfx [1,1] (coll_fold (bo := b2) (ts := 79) (pre := pre ++ [x]) rfl) rfl <| Zrn trivial [0] 2 rfl rfl
  · refine Zol 1 coll_op rfl <| fun A cap => Zv (yd 0 rfl rfl rfl) <| Zv (ya rfl) <| Znl <| Znx <| Zrt <| Zmk 2 rfl ?_
    refine Zre (.t rfl .n) (hS A cap) [1] 1 rfl rfl rfl rfl
theorem c60 {gf : Nat} {lb : List Value} {c : Ck} {xs : List Ln} (hq : Sq Tryz.prog gf lb [c] (fun _ => []) (fun x => [.agg (lnE.arr x)]) xs) (hl : xs.length ≤ 1000000) (hf : callOk Tryz.prog gf = true) : Sp Tryz.prog 60 [.func (.func gf) #[] lb.toArray] [c] fun K => ∀ A cap, K (.returned (.slice A xs.length cap)) [.hp (own lnE A cap xs)] := by
  refine Zen Tryz.func60 rfl rfl rfl fun e X Φ hS => Zsr <| Zv (ya rfl) <| Znl <| Znx <| Zsr <| Zv (ym rfl) ?_
  refine Zk (c106 hq hl hf) [0] rfl rfl <| fun A => fun cap => Zq <| Zv (ya rfl) <| Znl <| Znx <| Zrt ?_
  refine Zre (.t rfl .n) (hS A cap) [0] 0 rfl rfl rfl rfl
end Go.Proofs.YtpfijldkkfiooaaGreatDoor
namespace Go.Proofs.YtpfijldkkfiooaaGreatDoor
open Go
set_option maxRecDepth 4000
structure CD where
  id : Int
  n : Nat
  ways : Int
  L : List Ln
  ask : Option (Int × Bool)
  giv : Option Ln
structure CD.Ok (d : CD) : Prop where
  i0 : 0 ≤ d.id
  i1 : d.id < 4
  n0 : 0 < d.n
  n1 : d.n ≤ 64
  w0 : 1 ≤ d.ways
  w1 : d.ways ≤ 8
  un : Uniq d.L
  fit : Fits d.n d.ways d.L
  ask : ∀ l wr, d.ask = some (l, wr) → U32 l
def askC (p : Option Addr) : Option (Int × Bool) → HP
  | none => fun _ => p = none
  | some (l, wr) => fun h => ∃ b, p = some ⟨b, 0, none⟩ ∧ Sep [.blk b 196 [.int .u32 l, .bool wr]] h
def givC (p : Option Addr) : Option Ln → HP
  | none => fun _ => p = none
  | some x => fun h => ∃ b, p = some ⟨b, 0, none⟩ ∧ Sep [.blk b 145 (lnE.cells x)] h
theorem askC.is {p : Option Addr} {a : Option (Int × Bool)} {h : Hl} (hh : askC p a h) : p.isSome = a.isSome := by
  rcases a with _ | ⟨l, wr⟩
  · rw [show p = none from hh]; rfl
  · obtain ⟨b, e, _⟩ := hh; rw [e]; rfl
theorem givC.is {p : Option Addr} {a : Option Ln} {h : Hl} (hh : givC p a h) : p.isSome = a.isSome := by
  cases a with
  | none => rw [show p = none from hh]; rfl
  | some x => obtain ⟨b, e, _⟩ := hh; rw [e]; rfl
def cacC (b : Nat) (d : CD) : HP := fun h => d.Ok ∧ ∃ lb pa pg, Sep [.blk b 155 [.int .i64 d.id, .pointer (some ⟨lb, 0, none⟩), .pointer pa, .pointer pg], .hp (linesC lb d.n d.ways d.L), .hp (askC pa d.ask), .hp (givC pg d.giv)] h
theorem cac_op {b : Nat} {d : CD} : Op_ (cacC b d) fun K => d.Ok → ∀ lb pa pg, pa.isSome = d.ask.isSome → pg.isSome = d.giv.isSome → K [.blk b 155 [.int .i64 d.id, .pointer (some ⟨lb, 0, none⟩), .pointer pa, .pointer pg], .hp (linesC lb d.n d.ways d.L), .hp (askC pa d.ask), .hp (givC pg d.giv)] := .mk fun G k h hh => by
  obtain ⟨ok, lb, va, vg, hs⟩ := hh
  obtain ⟨_, _, ha⟩ := hs.nth (i := 2) rfl
  obtain ⟨_, _, hg⟩ := hs.nth (i := 3) rfl
  exact ⟨_, k ok lb va vg (askC.is ha) (givC.is hg), hs⟩
theorem cac_fold {b lb : Nat} {d : CD} {pa pg : Option Addr} (ok : d.Ok) : ∀ h, Sep [.blk b 155 [.int .i64 d.id, .pointer (some ⟨lb, 0, none⟩), .pointer pa, .pointer pg], .hp (linesC lb d.n d.ways d.L), .hp (askC pa d.ask), .hp (givC pg d.giv)] h → cacC b d h := fun _ hs => ⟨ok, lb, pa, pg, hs⟩
theorem ask_op1 {p : Option Addr} {l : Int} {wr : Bool} : Op_ (askC p (some (l, wr))) fun K => ∀ b, p = some ⟨b, 0, none⟩ → K [.blk b 196 [.int .u32 l, .bool wr]] := .mk fun G k h hh => by
  obtain ⟨b, e, hs⟩ := hh
  exact ⟨_, k b e, hs⟩
theorem giv_op1 {p : Option Addr} {x : Ln} : Op_ (givC p (some x)) fun K => ∀ b, p = some ⟨b, 0, none⟩ → K [.blk b 145 (lnE.cells x)] := .mk fun G k h hh => by
  obtain ⟨b, e, hs⟩ := hh
  exact ⟨_, k b e, hs⟩
theorem ask_f0 : ∀ h, Sep [] h → askC none none h := fun _ _ => rfl
theorem ask_f1 {b : Nat} {l : Int} {wr : Bool} : ∀ h, Sep [.blk b 196 [.int .u32 l, .bool wr]] h → askC (some ⟨b, 0, none⟩) (some (l, wr)) h := fun _ hs => ⟨b, rfl, hs⟩
theorem giv_f0 : ∀ h, Sep [] h → givC none none h := fun _ _ => rfl
theorem giv_f1 {b : Nat} {x : Ln} : ∀ h, Sep [.blk b 145 (lnE.cells x)] h → givC (some ⟨b, 0, none⟩) (some x) h := fun _ hs => ⟨b, rfl, hs⟩
def Ln.st (x : Ln) (s : Int) : Ln := ⟨x.num, s, x.bs, x.hn⟩
theorem pt_st (x : Ln) (s : Int) : put (lnE.cells x) 1 (.int .i64 s) = some (lnE.cells (x.st s)) := rfl
def Msg.wb (m : Msg) (b : B16) : Msg := ⟨m.kind, m.src, m.dst, m.line, b, m.hn⟩
theorem pt_mbs (m : Msg) (b : B16) : spl (msgE.cells m) 4 (bsE.cells b) = msgE.cells (m.wb b) := by
  show spl (m.cells) 4 (b16c b) = (m.wb b).cells
  unfold Msg.cells Msg.wb b16c
  simp only [spl]
  rw [List.drop_of_length_le (by simp [m.bs.2.1, b.2.1]), List.append_nil]
section
variable {P : Program} {N : Nat × List Deferred} {T : Tb} {e : World} {L : List Ck} {ty : TypeId} {pos : String} {af : Array Edge} {g : Option (Nat × Bool)} {dd : Option Nat}
theorem ybln3 {parts : List (Nat × Operand)} {n s : Int} {b : B16} (hn : 0 ≤ n ∧ n < 4294967296) (h : evP T parts = some [(0, .int .u32 n), (1, .int .i64 s), (2, .agg (bsE.cells b).toArray)]) : Yl Tryz.prog N T e L ⟨dd, .build 145 parts.toArray, ty, pos, af, g⟩ (.agg (lnE.arr ⟨n, s, b, hn⟩)) := fun a w fr hp => by
  have hb : (cl (.agg (bsE.cells b).toArray)).length = 16 := bsE.len b
  have := yb (P := Tryz.prog) (N := N) (T := T) (e := e) (L := L) (dd := dd) (ty := ty) (pos := pos) (af := af) (g := g) l145 h ⟨⟨_, _, rfl, rfl, rfl⟩, ⟨_, _, rfl, rfl, rfl⟩, ⟨_, _, rfl, hb, rfl⟩, trivial⟩ a w fr hp
  rw [this]
  congr 3
  have hl : (bsE.cells b).length = 16 := bsE.len b
  show (List.toArray _) = List.toArray _
  congr 1
  show _ :: _ :: (bsE.cells b ++ _) = _ :: _ :: bsE.cells b
  congr 2
  rw [List.drop_of_length_le (by rw [hb]; exact Nat.le_refl 16), List.append_nil]
theorem ybln2 {parts : List (Nat × Operand)} {n : Int} {b : B16} (hn : 0 ≤ n ∧ n < 4294967296) (h : evP T parts = some [(0, .int .u32 n), (2, .agg (bsE.cells b).toArray)]) : Yl Tryz.prog N T e L ⟨dd, .build 145 parts.toArray, ty, pos, af, g⟩ (.agg (lnE.arr ⟨n, 0, b, hn⟩)) := fun a w fr hp => by
  have hb : (cl (.agg (bsE.cells b).toArray)).length = 16 := bsE.len b
  have := yb (P := Tryz.prog) (N := N) (T := T) (e := e) (L := L) (dd := dd) (ty := ty) (pos := pos) (af := af) (g := g) l145 h ⟨⟨_, _, rfl, rfl, rfl⟩, ⟨_, _, rfl, hb, rfl⟩, trivial⟩ a w fr hp
  rw [this]
  congr 3
  have hl : (bsE.cells b).length = 16 := bsE.len b
  show (List.toArray _) = List.toArray _
  congr 1
  show _ :: _ :: (bsE.cells b ++ _) = _ :: _ :: bsE.cells b
  congr 2
  rw [List.drop_of_length_le (by rw [hb]; exact Nat.le_refl 16), List.append_nil]
end
theorem fits_len {n : Nat} {ways : Int} {L : List Ln} (h0 : 0 < n) (h64 : n ≤ 64) (hw : ways ≤ 8) (hf : Fits n ways L) : L.length ≤ 512 := by
  have h1 : ∀ m, m ≤ n → ((List.range m).flatMap (ofs n L)).length ≤ m * 8 := by
    intro m
    induction m with
    | zero => intro _; simp
    | succ m ih =>
      intro hm
      rw [List.range_succ, List.flatMap_append, List.length_append]
      simp only [List.flatMap_cons, List.flatMap_nil, List.append_nil]
      have h2 := ih (by omega)
      have h3 := hf m (by omega)
      omega
  have h2 := h1 n (Nat.le_refl _)
  have h3 : (allL n L).length = L.length := allL_len h0 L
  unfold allL at h3
  omega
theorem CD.Ok.len {d : CD} (h : d.Ok) : d.L.length ≤ 512 := fits_len h.n0 h.n1 h.w1 h.fit
def writesB (s : Int) : Bool := decide (s = 2) || decide (s = 3)
def fndL (L : List Ln) (num : Int) : Ln := (getN L num).getD ln0
def stateOf (L : List Ln) (num : Int) : Int := (fndL L num).state
def CD.setL (d : CD) (L : List Ln) : CD := ⟨d.id, d.n, d.ways, L, d.ask, d.giv⟩
theorem c59 (b lb : Nat) (v0 va vg : Value) : Sp Tryz.prog 59 [.pointer (some ⟨b, 0, none⟩)] [.blk b 155 [v0, .pointer (some ⟨lb, 0, none⟩), va, vg]] fun K => K (.returned (.bool false)) [.blk b 155 [v0, .pointer (some ⟨lb, 0, none⟩), va, vg]] := by
  refine Zen Tryz.func59 rfl rfl rfl fun e X Φ hS => Zsr <| Zv (ya rfl) <| Znl <| Znx <| Zsr <| Zv (ym rfl) <| Zv (ypeq rfl rfl rfl) <| Zv (ym rfl) <| Zg rfl rfl ?_
  refine Zv (ym rfl) <| Zg rfl rfl <| Zv (yn rfl) <| Zg rfl rfl <| Zv (yf 1 rfl) <| Zg rfl rfl <| Zv (yd 0 rfl rfl rfl) <| Zg rfl rfl <| Zv (ypeq rfl rfl rfl) <| Zv (ypf rfl rfl) ?_
  refine Zv (ya rfl) <| Znl <| Znx <| Zrt <| Zre (.t rfl .n) hS [0] 0 rfl rfl rfl rfl
theorem c222 (s : Int) : Sp Tryz.prog 222 [.int .i64 s] [] fun K => K (.returned (.bool (writesB s))) [] := by
  refine Zen Tryz.func222 rfl rfl rfl fun e X Φ hS => Zsr <| Zv (ya rfl) <| Znl <| Znx <| Zsr <| Zv (ym rfl) <| Zv (yeq rfl rfl) <| Zv (ym rfl) <| Zgs rfl rfl (fun h5 => ?_) (fun h5 => ?_)
  refine Zu' rfl rfl (decide_eq_true h5) rfl <| Zu' rfl rfl (decide_eq_true h5) rfl <| Zv (ypt' rfl (decide_eq_true h5) rfl) <| Zv (ya rfl) <| Znl <| Znx <| Zrt <| Zre (.t rfl .n) hS [] 0 ?_ rfl rfl rfl
  rotate_left
  refine Zg' rfl rfl (decide_eq_false h5) <| Zv (ym rfl) <| Zg' rfl rfl (decide_eq_false h5) <| Zv (yeq rfl rfl) <| Zv (ypf' rfl (decide_eq_false h5) rfl) <| Zv (ya rfl) <| Znl <| Znx <| Zrt <| Zre (.t rfl .n) hS [] 0 ?_ rfl rfl rfl
  rotate_left
  all_goals simp [pk, writesB, *]
theorem c146' (b n : Nat) (ways num : Int) (L : List Ln) (hw : ways ≠ 0) (hn : 0 ≤ num ∧ num < 4294967296) (hl : L.length ≤ 1048576) : Sp Tryz.prog 146 [.pointer (some ⟨b, 0, none⟩), .int .u32 num] [.hp (linesC b n ways L)] fun K => K (.returned (.tuple #[.agg (lnE.arr (fndL L num)), .bool (getN L num).isSome])) [.hp (linesC b n ways L)] := ⟨fun e X w Φ hp hS => (c146 b n ways num L hw hn hl).run e X w Φ hp (by
  cases hg : getN L num with
  | none =>
    refine ⟨fun x h => (by cases h), fun _ => ?_⟩
    simpa [fndL, hg] using hS
  | some x =>
    refine ⟨fun y h => ?_, fun h => (by cases h)⟩
    cases h
    simpa [fndL, hg] using hS)⟩
theorem c97 (b : Nat) (d : CD) (num : Int) (hn : U32 num) : Sp Tryz.prog 97 [.pointer (some ⟨b, 0, none⟩), .int .u32 num] [.hp (cacC b d)] fun K => K (.returned (.int .i64 (stateOf d.L num))) [.hp (cacC b d)] := by
  refine Zen Tryz.func97 rfl rfl rfl fun e X Φ hS => Zoc 0 cac_op rfl <| fun ok lb pa pg ha hg => Zsr <| Zv (ya rfl) <| Znl <| Znx <| Zsq <| Zsr <| Zv (ym rfl) <| Zk (c59 ..) [0] rfl rfl <| Zq ?_
  refine Znl <| Znx <| Zcf rfl <| Zsk <| Znx <| Zsr <| Zv (ym rfl) <| Zv (yn rfl) <| Zv (yf 1 rfl) <| Zv (yd 0 rfl rfl rfl) ?_
  refine Zv (ym rfl) ?_
  refine Zk (c146' lb d.n d.ways num d.L (by have := ok.w0; omega) hn (Nat.le_trans ok.len (by decide))) [1] rfl rfl <| Zq <| Zv (ym rfl) <| Zv (yx rfl rfl) <| Zv (yx rfl rfl) <| Ze (eal z145) fun b5 => Zw <| Ze (esw 0 (m := 18) rfl rfl rfl rfl rfl (Enc.len ..) (Enc.allL ..)) <| Zw0 <| Zv (ya rfl) <| Znl <| Znx ?_
  refine Zsr <| Zv (yf 1 rfl) <| Zv (yd 0 rfl rfl rfl) <| Zv (ya rfl) <| Znl <| Znx <| Zrt ?_
  refine Zfx [2,1,1,1] (cac_fold (b := b) (d := d) ok) rfl <| Zre (.t rfl .n) hS [0] 1 rfl rfl rfl rfl
theorem c103 (b : Nat) (d : CD) : Sp Tryz.prog 103 [.pointer (some ⟨b, 0, none⟩)] [.hp (cacC b d)] fun K => K (.returned (.tuple #[.agg (lnE.arr (d.giv.getD ln0)), .bool d.giv.isSome])) [.hp (cacC b d)] := by
  obtain ⟨id_, n, ways, L, ask, giv⟩ := d
  cases giv with
  | none =>
    refine Zen Tryz.func103 rfl rfl rfl fun e X Φ hS => Zoc 0 cac_op rfl <| fun ok lb pa pg ha hg => Zsr <| Ze (eal z145) fun b2 => Zw <| Zv (ya rfl) <| Znl <| Znx <| Zsq <| Zsr <| Zv (ym rfl) <| Zk (c59 ..) [1] rfl rfl ?_
    refine Zq <| Zv (ym rfl) <| Zg rfl rfl <| Zv (ym rfl) <| Zg rfl rfl <| Zv (yn rfl) <| Zg rfl rfl <| Zv (yf 3 rfl) <| Zg rfl rfl <| Zv (yd 0 rfl rfl rfl) ?_
    refine Zg rfl rfl <| Zv (ypeq rfl rfl rfl) <| Zv (ypf rfl rfl) <| Znl <| Znx <| Zib rfl (fun h12 => ?_) (fun h12 => ?_)
    refine Zsr <| Zv (yb l145 rfl) <| Ze (esw 1 (m := 18) rfl rfl rfl rfl rfl rfl rfl) <| Zw0 <| Zv (ya rfl) <| Znl <| Znx <| Zrt <| Zr1 ?_
    rotate_left
    refine Zsk <| Znx <| Zsr <| Zv (ym rfl) <| Zv (yn rfl) <| Zv (yf 3 rfl) <| Zv (yd 0 rfl rfl rfl) ?_
    rotate_left
    · refine Zfx [0,1,1,1] (cac_fold (b := b) (d := ⟨id_, n, ways, L, ask, none⟩) ok) rfl <| Zre (.wh 1 (m := 18) rfl rfl rfl (.t rfl .n)) hS [0] 1 rfl rfl rfl rfl
    · exact absurd h12 (by cases pg with | none => simp | some a => cases hg)
  | some x =>
    refine Zen Tryz.func103 rfl rfl rfl fun e X Φ hS => Zoc 0 cac_op rfl <| fun ok lb pa pg ha hg => Zoc 3 giv_op1 rfl <| fun bg eg => ?_
    subst eg
    refine Zsr <| Ze (eal z145) fun b2 => Zw <| Zv (ya rfl) <| Znl <| Znx <| Zsq <| Zsr <| Zv (ym rfl) <| Zk (c59 ..) [2] rfl rfl <| Zq ?_
    refine Zv (ym rfl) <| Zg rfl rfl <| Zv (ym rfl) <| Zg rfl rfl <| Zv (yn rfl) <| Zg rfl rfl <| Zv (yf 3 rfl) <| Zg rfl rfl <| Zv (yd 0 rfl rfl rfl) <| Zg rfl rfl ?_
    refine Zv (ypeq rfl rfl rfl) <| Zv (ypf rfl rfl) <| Znl <| Znx <| Zcf rfl <| Zsk <| Znx <| Zsr <| Zv (ym rfl) <| Zv (yn rfl) ?_
    refine Zv (yf 3 rfl) <| Zv (yd 0 rfl rfl rfl) <| Zv (yn rfl) <| Zv (ydw 2 (m := 18) rfl rfl (Enc.len ..)) <| Ze (esw 1 (m := 18) rfl rfl rfl rfl rfl (Enc.len ..) (Enc.allL ..)) <| Zw0 <| Zv (ya rfl) <| Znl <| Znx <| Zrt ?_
    refine Zfx [2] (giv_f1 (b := bg) (x := x)) rfl ?_
    refine Zfx [1,2,2,0] (cac_fold (b := b) (d := ⟨id_, n, ways, L, ask, some x⟩) ok) rfl <| Zre (.wh 1 (m := 18) rfl rfl (Enc.len ..) (.t rfl .n)) hS [0] 1 rfl rfl rfl rfl
theorem c231 (fine : Bool) (why : Int) : Sp Tryz.prog 231 [.bool fine, .int .i64 why] [] fun K => (fine = true → K (.returned (.tuple #[])) []) ∧ (fine = false → K (.panicked (panV (.iface 348 (.agg #[.int .i64 why])))) []) := by
  cases fine
  · refine Zen Tryz.func231 rfl rfl rfl fun e X Φ hS => Zsr <| Zv (ym rfl) <| Zv (ynot rfl) <| Znl <| Znx <| Zct rfl <| Zrg <| Zv (ym rfl) <| Zv (yb l348 rfl) ?_
    refine Zv (ymi Tryz.underlying348 rfl rfl) <| Zpn rfl ?_
    refine Zpe (hS.2 rfl) [] 0 rfl rfl
  · refine Zen Tryz.func231 rfl rfl rfl fun e X Φ hS => Zsr <| Zv (ym rfl) <| Zv (ynot rfl) <| Znl <| Znx <| Zcf rfl <| Zsk <| Zee ?_
    refine Zre .n (hS.1 rfl) [] 0 rfl rfl rfl rfl
theorem c231f (fine : Bool) (why : Int) (h : fine = false) : Sp Tryz.prog 231 [.bool fine, .int .i64 why] [] fun K => K (.panicked (panV (.iface 348 (.agg #[.int .i64 why])))) [] := by
  subst h
  refine Zen Tryz.func231 rfl rfl rfl fun e X Φ hS => Zsr <| Zv (ym rfl) <| Zv (ynot rfl) <| Znl <| Znx <| Zct rfl <| Zrg <| Zv (ym rfl) <| Zv (yb l348 rfl) ?_
  refine Zv (ymi Tryz.underlying348 rfl rfl) <| Zpn rfl ?_
  refine Zpe hS [] 0 rfl rfl
theorem c232 (b : Nat) (i kind num : Int) (hn : U32 num) (v1 v2 v3 : Value) : Sp Tryz.prog 232 [.pointer (some ⟨b, 0, none⟩), .int .i64 kind, .int .u32 num] [.blk b 155 [.int .i64 i, v1, v2, v3]] fun K => K (.returned (.agg (msgE.arr (mkM kind i 4 num b16z hn)))) [.blk b 155 [.int .i64 i, v1, v2, v3]] := by
  refine Zen Tryz.func232 rfl rfl rfl fun e X Φ hS => Zsr <| Ze (eal z117) fun b6 => Zw <| Znl <| Znx <| Zsr <| Zv (ym rfl) <| Zv (ym rfl) <| Zv (yn rfl) <| Zv (yf 0 rfl) ?_
  refine Zv (yd 1 rfl rfl rfl) <| Zv (ym rfl) <| Zv (yb l117 rfl) <| Ze (esw 0 (m := 20) rfl rfl rfl rfl rfl rfl rfl) <| Zw0 <| Znl <| Znx <| Zrt <| Zre (.wh 0 (m := 20) rfl rfl rfl .n) hS [1] 1 rfl rfl rfl rfl
def rightA (addr width : Int) : Bool := (decide (width = 1) || decide (width = 2) || decide (width = 4)) && decide (addr % width = 0)
theorem rightA_yes {addr width : Int} (h : rightA addr width = true) : 1 ≤ width ∧ width ≤ 4 ∧ addr % 16 + width ≤ 16 := by
  simp [rightA] at h
  obtain ⟨(h1 | h1) | h1, h2⟩ := h <;> subst h1 <;> omega
theorem c221 (addr width : Int) (ha : U32 addr) : Sp Tryz.prog 221 [.int .u32 addr, .int .i64 width] [] fun K => K (.returned (.tuple #[.int .u32 (addr / 16), .int .i64 (addr % 16), .bool (rightA addr width)])) [] := by
  have ha' := ha
  unfold U32 at ha'
  refine Zen Tryz.func221 rfl rfl rfl fun e X Φ hS => Zsr <| Zv (ya rfl) <| Zv (ya rfl) <| Zv (ya rfl) <| Znl <| Znx <| Zsr <| Zv (ym rfl) <| Zv (yeq rfl rfl) ?_
  refine Zv (ym rfl) <| Zgs rfl rfl (fun h10 => ?_) (fun h10 => ?_)
  refine Zu' rfl rfl (decide_eq_true h10) rfl <| Zu' rfl rfl (decide_eq_true h10) rfl <| Zv (ypt' rfl (decide_eq_true h10) rfl) <| Zv (ym rfl) <| Zu rfl rfl rfl <| Zu rfl rfl rfl <| Zv (ypt rfl rfl) <| Zv (ym rfl) <| Zg rfl rfl <| Zv (ym rfl) ?_
  refine Zg rfl rfl <| Zv (ym rfl) <| Zg rfl rfl <| Zv (ymx rfl rfl rfl) <| Zg rfl rfl <| Zv (ycv Tryz.underlying3 Tryz.underlying40 rfl (u32w rfl (by omega))) <| Zg rfl rfl <| Zv (yrem rfl rfl (by omega) rfl) <| Zg rfl rfl <| Zv (yeq rfl rfl) ?_
  refine Zv (ypt rfl rfl) <| Zv (ya rfl) <| Znl <| Znx <| Zsr <| Zv (ym rfl) <| Zv (yquo rfl rfl (by decide) rfl) <| Zv (ym rfl) <| Zv (yrem rfl rfl (by decide) rfl) <| Zv (ycv Tryz.underlying40 Tryz.underlying3 rfl rfl) ?_
  refine Zv (ym rfl) <| Zv (ya rfl) <| Zv (ya rfl) <| Zv (ya rfl) <| Znl <| Znx <| Zrt <| Zre (.t rfl (.t rfl (.t rfl .n))) hS [] 0 ?_ rfl rfl rfl
  rotate_left
  refine Zg' rfl rfl (decide_eq_false h10) <| Zv (ym rfl) <| Zg' rfl rfl (decide_eq_false h10) <| Zv (yeq rfl rfl) <| Zv (ypf' rfl (decide_eq_false h10) rfl) <| Zv (ym rfl) <| Zgs rfl rfl (fun h14 => ?_) (fun h14 => ?_)
  refine Zu' rfl rfl (decide_eq_true h14) rfl <| Zu' rfl rfl (decide_eq_true h14) rfl <| Zv (ypt' rfl (decide_eq_true h14) rfl) <| Zv (ym rfl) <| Zg rfl rfl <| Zv (ym rfl) <| Zg rfl rfl <| Zv (ym rfl) <| Zg rfl rfl <| Zv (ymx rfl rfl rfl) ?_
  refine Zg rfl rfl <| Zv (ycv Tryz.underlying3 Tryz.underlying40 rfl (u32w rfl (by omega))) <| Zg rfl rfl <| Zv (yrem rfl rfl (by omega) rfl) <| Zg rfl rfl <| Zv (yeq rfl rfl) <| Zv (ypt rfl rfl) <| Zv (ya rfl) <| Znl <| Znx ?_
  refine Zsr <| Zv (ym rfl) <| Zv (yquo rfl rfl (by decide) rfl) <| Zv (ym rfl) <| Zv (yrem rfl rfl (by decide) rfl) <| Zv (ycv Tryz.underlying40 Tryz.underlying3 rfl rfl) <| Zv (ym rfl) <| Zv (ya rfl) <| Zv (ya rfl) <| Zv (ya rfl) ?_
  refine Znl <| Znx <| Zrt <| Zre (.t rfl (.t rfl (.t rfl .n))) hS [] 0 ?_ rfl rfl rfl
  rotate_left
  refine Zg' rfl rfl (decide_eq_false h14) <| Zv (ym rfl) <| Zg' rfl rfl (decide_eq_false h14) <| Zv (yeq rfl rfl) <| Zv (ypf' rfl (decide_eq_false h14) rfl) <| Zv (ym rfl) <| Zgs rfl rfl (fun h18 => ?_) (fun h18 => ?_)
  refine Zg' rfl rfl (decide_eq_true h18) <| Zv (ym rfl) <| Zg' rfl rfl (decide_eq_true h18) <| Zv (ym rfl) <| Zg' rfl rfl (decide_eq_true h18) <| Zv (ymx rfl rfl rfl) <| Zg' rfl rfl (decide_eq_true h18) <| Zv (ycv Tryz.underlying3 Tryz.underlying40 rfl (u32w rfl (by omega))) <| Zg' rfl rfl (decide_eq_true h18) <| Zv (yrem rfl rfl (by omega) rfl) ?_
  refine Zg' rfl rfl (decide_eq_true h18) <| Zv (yeq rfl rfl) <| Zv (ypt' rfl (decide_eq_true h18) rfl) <| Zv (ya rfl) <| Znl <| Znx <| Zsr <| Zv (ym rfl) <| Zv (yquo rfl rfl (by decide) rfl) <| Zv (ym rfl) ?_
  refine Zv (yrem rfl rfl (by decide) rfl) <| Zv (ycv Tryz.underlying40 Tryz.underlying3 rfl rfl) <| Zv (ym rfl) <| Zv (ya rfl) <| Zv (ya rfl) <| Zv (ya rfl) <| Znl <| Znx <| Zrt <| Zre (.t rfl (.t rfl (.t rfl .n))) hS [] 0 ?_ rfl rfl rfl
  rotate_left
  refine Zu' rfl rfl (decide_eq_false h18) rfl <| Zu' rfl rfl (decide_eq_false h18) rfl <| Zu' rfl rfl (decide_eq_false h18) rfl <| Zu' rfl rfl (decide_eq_false h18) rfl <| Zu' rfl rfl (decide_eq_false h18) rfl <| Zu' rfl rfl (decide_eq_false h18) rfl <| Zv (ypf' rfl (decide_eq_false h18) rfl) <| Zv (ya rfl) <| Znl <| Znx ?_
  refine Zsr <| Zv (ym rfl) <| Zv (yquo rfl rfl (by decide) rfl) <| Zv (ym rfl) <| Zv (yrem rfl rfl (by decide) rfl) <| Zv (ycv Tryz.underlying40 Tryz.underlying3 rfl rfl) <| Zv (ym rfl) <| Zv (ya rfl) <| Zv (ya rfl) <| Zv (ya rfl) ?_
  refine Znl <| Znx <| Zrt <| Zre (.t rfl (.t rfl (.t rfl .n))) hS [] 0 ?_ rfl rfl rfl
  rotate_left
  all_goals rw [Int.tdiv_eq_ediv_of_nonneg ha.1, Int.tmod_eq_emod_of_nonneg ha.1, u32w (r := addr / 16) rfl (by omega), i64w (r := addr % 16) rfl (by omega)]
  · subst h10
    simp [rightA, pk, Int.tmod_eq_emod_of_nonneg ha.1, show max (2 : Int) 1 = 2 from rfl, show max (4 : Int) 1 = 4 from rfl]
  · subst h14
    simp [rightA, pk, Int.tmod_eq_emod_of_nonneg ha.1, show max (2 : Int) 1 = 2 from rfl, show max (4 : Int) 1 = 4 from rfl]
  · subst h18
    simp [rightA, pk, Int.tmod_eq_emod_of_nonneg ha.1, show max (2 : Int) 1 = 2 from rfl, show max (4 : Int) 1 = 4 from rfl]
  · simp [rightA, pk, h10, h14, h18]
end Go.Proofs.YtpfijldkkfiooaaGreatDoor
namespace Go.Proofs.YtpfijldkkfiooaaGreatDoor
open Go
set_option maxRecDepth 4000
def rdR (bs : List Int) (p : Nat) : Nat → Int
  | 0 => 0
  | i + 1 => w32 (BitVec.ofInt 32 (rdR bs p i) ||| BitVec.ofInt 32 (w32 (bs.getD (p + i) 0 * 2 ^ min (8 * i) 32))).toNat
theorem getD_bd {l : List Int} (h : ∀ a ∈ l, 0 ≤ a ∧ a < 256) (j : Nat) : 0 ≤ l.getD j 0 ∧ l.getD j 0 < 256 := by
  by_cases hj : j < l.length
  · have e : l.getD j 0 = l[j] := by simp [List.getD, hj]
    rw [e]
    exact h _ (List.getElem_mem hj)
  · have e : l.getD j 0 = 0 := by simp [List.getD, List.getElem?_eq_none (show l.length ≤ j by omega)]
    rw [e]
    omega
def by8 (v : Int) (i : Nat) : Int := IntKind.u8.wrap (v.fdiv (2 ^ min (8 * i) 32))
theorem u8_bd (x : Int) : 0 ≤ IntKind.u8.wrap x ∧ IntKind.u8.wrap x < 256 := by
  simp [IntKind.wrap, IntKind.signed, IntKind.bits]
  omega
def wrL (bs : List Int) (p : Nat) (v : Int) : Nat → List Int
  | 0 => bs
  | i + 1 => (wrL bs p v i).set (p + i) (by8 v i)
theorem wrL_len (bs : List Int) (p : Nat) (v : Int) : ∀ i, (wrL bs p v i).length = bs.length
  | 0 => rfl
  | i + 1 => by rw [wrL, List.length_set, wrL_len]
theorem wrL_bd {bs : List Int} (h : ∀ a ∈ bs, 0 ≤ a ∧ a < 256) (p : Nat) (v : Int) : ∀ i, ∀ a ∈ wrL bs p v i, 0 ≤ a ∧ a < 256
  | 0 => h
  | i + 1 => fun a ha => by
    rcases List.mem_or_eq_of_mem_set ha with ha | rfl
    · exact wrL_bd h p v i a ha
    · exact u8_bd _
def wrB (b : B16) (p : Nat) (v : Int) (i : Nat) : B16 := ⟨wrL b.1 p v i, by rw [wrL_len]; exact b.2.1, wrL_bd b.2.2 p v i⟩
theorem nt_byte (x : Ln) {j : Nat} (hj : j < 16) : nth (lnE.cells x) (2 + j) = some (.int .u8 (x.bs.1.getD j 0)) := by
  have hl := x.bs.2.1
  rw [nth_eq]
  show (Ln.cells x)[2 + j]? = _
  rw [Nat.add_comm]
  simp [Ln.cells, List.getD, List.getElem?_eq_getElem (show j < x.bs.1.length by omega)]
def Ln.wr (x : Ln) (p : Nat) (v : Int) (i : Nat) : Ln := ⟨x.num, x.state, wrB x.bs p v i, x.hn⟩
theorem pt_byte (x : Ln) (p i : Nat) (v : Int) (hj : p + i < 16) : put (lnE.cells (x.wr p v i)) (2 + (p + i)) (.int .u8 (by8 v i)) = some (lnE.cells (x.wr p v (i + 1))) := by
  rw [put_set _ _ _ (by rw [lnE.len]; show _ < 18; omega)]
  show some ((Ln.cells _).set (2 + (p + i)) _) = some (Ln.cells _)
  rw [Nat.add_comm 2]
  simp [Ln.cells, Ln.wr, wrB, wrL, List.map_set]
def readF (L : List Ln) (addr width : Int) : Int × Int :=
  if rightA addr width = false then (0, 2) else match getN L (addr / 16) with
    | none => (0, 232)
    | some x => (rdR x.bs.1 (addr % 16).toNat width.toNat, 0)
theorem c252 (b : Nat) (d : CD) (addr width : Int) (ha : U32 addr) : Sp Tryz.prog 252 [.pointer (some ⟨b, 0, none⟩), .int .u32 addr, .int .i64 width] [.hp (cacC b d)] fun K => K (.returned (.tuple #[.int .u32 (readF d.L addr width).1, .int .i64 (readF d.L addr width).2])) [.hp (cacC b d)] := by
  have hn : U32 (addr / 16) := by unfold U32 at *; omega
  cases hr : rightA addr width with
  | false =>
    rw [show readF d.L addr width = (0, 2) from if_pos hr]
    refine Zen Tryz.func252 rfl rfl rfl fun e X Φ hS => Zoc 0 cac_op rfl <| fun ok lb pa pg hha hg => Zsr <| Zv (ya rfl) <| Zv (ya rfl) <| Znl <| Znx <| Zsq <| Zsr <| Zv (ym rfl) <| Zk (c59 ..) [0] rfl rfl ?_
    refine Zq <| Znl <| Znx <| Zcf rfl <| Zsk <| Znx <| Zsr <| Zv (ym rfl) <| Zv (ym rfl) ?_
    refine Zk (c221 addr width ha) [] rfl rfl <| Zq <| Zv (ym rfl) <| Zv (yx rfl rfl) <| Zv (yx rfl rfl) <| Zv (yx rfl rfl) <| Zv (ya rfl) <| Zv (ya rfl) <| Zv (ya rfl) <| Znl ?_
    refine Znx <| Zsq <| Zsr <| Zv (ym rfl) <| Zv (ynot rfl) <| Znl <| Znx <| Zct' rfl (congrArg Bool.not hr) <| Zsr <| Zv (ya rfl) ?_
    refine Zv (ya rfl) <| Znl <| Znx <| Zrt <| Zr1 ?_
    refine Zfx [0,0,0,0] (cac_fold (b := b) (d := d) ok) rfl <| Zre (.t rfl (.t rfl .n)) hS [0] 0 rfl rfl rfl rfl
  | true =>
    obtain ⟨w1, w2, w3⟩ := rightA_yes hr
    obtain ⟨p, hp⟩ : ∃ p : Nat, addr % 16 = p := ⟨(addr % 16).toNat, by omega⟩
    obtain ⟨wd, rfl⟩ : ∃ wd : Nat, width = wd := ⟨width.toNat, by omega⟩
    refine Zen Tryz.func252 rfl rfl rfl fun e X Φ hS => Zoc 0 cac_op rfl <| fun ok lb pa pg hha hg => ?_
    refine Zsr <| Zv (ya rfl) <| Zv (ya rfl) <| Znl <| Znx <| Zsq <| Zsr <| Zv (ym rfl) <| Zk (c59 ..) [0] rfl rfl <| Zq ?_
    refine Znl <| Znx <| Zcf rfl <| Zsk <| Znx <| Zsr <| Zv (ym rfl) <| Zv (ym rfl) ?_
    refine Zk (c221 addr wd ha) [] rfl rfl <| Zq <| Zv (ym rfl) <| Zv (yx rfl rfl) <| Zv (yx rfl rfl) <| Zv (yx rfl rfl) <| Zv (ya rfl) <| Zv (ya rfl) <| Zv (ya rfl) <| Znl ?_
    refine Znx <| Zsq <| Zsr <| Zv (ym rfl) <| Zv (ynot rfl) <| Znl <| Znx <| Zcf' rfl (congrArg Bool.not hr) <| Zsk <| Znx ?_
    refine Zsr <| Zv (ym rfl) <| Zv (yn rfl) <| Zv (yf 1 rfl) <| Zv (yd 0 rfl rfl rfl) <| Zv (ym rfl) ?_
    refine Zk (c146' lb d.n d.ways (addr / 16) d.L (by have := ok.w0; omega) hn (Nat.le_trans ok.len (by decide))) [1] rfl rfl <| Zq <| Zv (ym rfl) <| Zv (yx rfl rfl) <| Zv (yx rfl rfl) <| Ze (eal z145) fun b11 => Zw <| Ze (esw 0 (m := 18) rfl rfl rfl rfl rfl (Enc.len ..) (Enc.allL ..)) <| Zw0 <| Zv (ya rfl) <| Znl <| Znx ?_
    refine Zsq <| Zsr <| Zv (ym rfl) <| Zv (ynot rfl) <| Znl <| Znx <| Zib rfl (fun h36 => ?_) (fun h36 => ?_)
    refine Zsr <| Zv (ya rfl) <| Zv (ya rfl) <| Znl <| Znx <| Zrt <| Zr1 ?_
    rotate_left
    refine Zsk <| Znx <| Zsr <| Zv (ya rfl) <| Znl <| Znx <| Zsq <| Zsr <| Zv (ym rfl) <| Zv (ym rfl) ?_
    refine Znl <| Znx <| Zbl ?_
    rotate_left
    · have hx : getN d.L (addr / 16) = none := by simpa using h36
      rw [show readF d.L addr wd = (0, 232) by unfold readF; rw [hr, hx]; rfl] at hS
      refine Zfx [2,1,1,1] (cac_fold (b := b) (d := d) ok) rfl <| Zre (.t rfl (.t rfl .n)) hS [0] 1 rfl rfl rfl rfl
    · obtain ⟨x, hx⟩ : ∃ x, getN d.L (addr / 16) = some x := by
        cases hq : getN d.L (addr / 16) with
        | none => rw [hq] at h36; cases h36
        | some x => exact ⟨x, rfl⟩
      have e1 : readF d.L addr wd = (rdR x.bs.1 p wd, 0) := by unfold readF; rw [hr, hx, hp]; rfl
      have e2 : fndL d.L (addr / 16) = x := by unfold fndL; rw [hx]; rfl
      rw [e1] at hS
      rw [e2, hp]
      rw [hp] at w3
      refine Zlq (ι := { i : Nat // i ≤ wd }) (fun i => [(38, .int .i64 (i.1 : Int)), (37, .int .i64 (wd : Int)), (13, .int .u32 (rdR x.bs.1 p i.1)), (11, .pointer (some ⟨b11, 0, none⟩)), (9, .int .i64 (p : Int))]) (fun i => [.blk b11 145 (lnE.cells x)]) (fun i => wd - i.1) ⟨0, by omega⟩ ⟨rfl, rfl, rfl, rfl, rfl, trivial⟩ [0] rfl fun i => Zsr <| Zv (ylt rfl rfl) <| Znl <| Znx <| Zsq <| Zif rfl (fun h39 => ?_) (fun h39 => ?_)
      refine Zsk <| Znx <| Zsq <| Zbl <| Zsr <| Zv (ym rfl) <| Zv (ya rfl) <| Znl <| Znx <| Zrg ?_
      refine Zv (ym rfl) <| Zv (ym rfl) <| Zv (ym rfl) <| Zv (yadd rfl rfl (i64w rfl (by omega))) <| Zv (yf 2 rfl) <| Zv (yai Tryz.underlying115 rfl rfl (by omega)) ?_
      rotate_left
      refine Zex <| Zxt <| Zxt <| Zxx <| Znx <| Zsr <| Zv (ym rfl) <| Zv (ya rfl) <| Zv (ya rfl) <| Znl ?_
      refine Znx <| Zrt ?_
      rotate_left
      · have hb := getD_bd x.bs.2.2 (p + i.1)
        refine Zv (yd 0 rfl rfl (nt_byte x (j := p + i.1) (by omega))) <| Zv (ycv Tryz.underlying5 Tryz.underlying40 rfl (u32w rfl (by omega))) <| Zv (ym rfl) <| Zv (ymul rfl rfl (i64w rfl (by omega))) <| Zv (yshl rfl rfl (by omega) rfl) <| Zv (yor rfl rfl rfl) <| Zv (ya rfl) <| Znl <| Zxn <| Znx ?_
        refine Zrg <| Zv (yadd rfl rfl (i64w rfl (by omega))) <| Zv (ym rfl) <| Znl ?_
        refine Zlr ⟨i.1 + 1, by omega⟩ (by show wd - (i.1 + 1) < wd - i.1; omega) ⟨rfl, rfl, rfl, rfl, rfl, trivial⟩ [0] 0 rfl rfl
      · have hi : i.1 = wd := by have := i.2; omega
        rw [hi]
        refine Zfx [2,1,1,1] (cac_fold (b := b) (d := d) ok) rfl <| Zre (.t rfl (.t rfl .n)) hS [0] 1 rfl rfl rfl rfl
def wrLn (x : Ln) (addr width v : Int) : Ln := (x.wr (addr % 16).toNat v width.toNat).st 3
def writeF (d : CD) (addr width v : Int) : CD × Int :=
  if rightA addr width = false then (d, 2) else if writesB (stateOf d.L (addr / 16)) = false then (d, 232)
  else (d.setL (putL d.n d.ways d.L (wrLn (fndL d.L (addr / 16)) addr width v)), putE d.n d.ways d.L (wrLn (fndL d.L (addr / 16)) addr width v))
theorem CD.Ok.put {d : CD} (h : d.Ok) (l : Ln) : (d.setL (putL d.n d.ways d.L l)).Ok := { h with un := h.un.putL, fit := h.fit.putL l }
theorem CD.Ok.drop {d : CD} (h : d.Ok) (num : Int) : (d.setL (dropL d.L num)).Ok := { h with un := h.un.drop num, fit := h.fit.drop num }
theorem c187 (b : Nat) (d : CD) (addr width v : Int) (ha : U32 addr) : Sp Tryz.prog 187 [.pointer (some ⟨b, 0, none⟩), .int .u32 addr, .int .i64 width, .int .u32 v] [.hp (cacC b d)] fun K => K (.returned (.int .i64 (writeF d addr width v).2)) [.hp (cacC b (writeF d addr width v).1)] := by
  have hn : U32 (addr / 16) := by unfold U32 at *; omega
  cases hr : rightA addr width with
  | false =>
    rw [show writeF d addr width v = (d, 2) from if_pos hr]
    refine Zen Tryz.func187 rfl rfl rfl fun e X Φ hS => Zoc 0 cac_op rfl <| fun ok lb pa pg hha hg => Zsr <| Zv (ya rfl) <| Znl <| Znx <| Zsq <| Zsr <| Zv (ym rfl) <| Zk (c59 ..) [0] rfl rfl <| Zq ?_
    refine Znl <| Znx <| Zcf rfl <| Zsk <| Znx <| Zsr <| Zv (ym rfl) <| Zv (ym rfl) ?_
    refine Zk (c221 addr width ha) [] rfl rfl <| Zq <| Zv (ym rfl) <| Zv (yx rfl rfl) <| Zv (yx rfl rfl) <| Zv (yx rfl rfl) <| Zv (ya rfl) <| Zv (ya rfl) <| Zv (ya rfl) <| Znl ?_
    refine Znx <| Zsq <| Zsr <| Zv (ym rfl) <| Zv (ynot rfl) <| Znl <| Znx <| Zct' rfl (congrArg Bool.not hr) <| Zsr <| Zv (ya rfl) ?_
    refine Znl <| Znx <| Zrt <| Zr1 ?_
    refine Zfx [0,0,0,0] (cac_fold (b := b) (d := d) ok) rfl <| Zre (.t rfl .n) hS [0] 0 rfl rfl rfl rfl
  | true =>
    obtain ⟨w1, w2, w3⟩ := rightA_yes hr
    obtain ⟨p, hp⟩ : ∃ p : Nat, addr % 16 = p := ⟨(addr % 16).toNat, by omega⟩
    obtain ⟨wd, rfl⟩ : ∃ wd : Nat, width = wd := ⟨width.toNat, by omega⟩
    refine Zen Tryz.func187 rfl rfl rfl fun e X Φ hS => Zoc 0 cac_op rfl <| fun ok lb pa pg hha hg => ?_
    refine Zsr <| Zv (ya rfl) <| Znl <| Znx <| Zsq <| Zsr <| Zv (ym rfl) <| Zk (c59 ..) [0] rfl rfl <| Zq <| Znl ?_
    refine Znx <| Zcf rfl <| Zsk <| Znx <| Zsr <| Zv (ym rfl) <| Zv (ym rfl) ?_
    refine Zk (c221 addr wd ha) [] rfl rfl <| Zq <| Zv (ym rfl) <| Zv (yx rfl rfl) <| Zv (yx rfl rfl) <| Zv (yx rfl rfl) <| Zv (ya rfl) <| Zv (ya rfl) <| Zv (ya rfl) <| Znl ?_
    refine Znx <| Zsq <| Zsr <| Zv (ym rfl) <| Zv (ynot rfl) <| Znl <| Znx <| Zcf' rfl (congrArg Bool.not hr) <| Zsk <| Znx ?_
    refine Zsr <| Zv (ym rfl) <| Zv (yn rfl) <| Zv (yf 1 rfl) <| Zv (yd 0 rfl rfl rfl) <| Zv (ym rfl) ?_
    refine Zk (c146' lb d.n d.ways (addr / 16) d.L (by have := ok.w0; omega) hn (Nat.le_trans ok.len (by decide))) [1] rfl rfl <| Zq <| Zv (ym rfl) <| Zv (yx rfl rfl) <| Zv (yx rfl rfl) <| Ze (eal z145) fun b12 => Zw <| Ze (esw 0 (m := 18) rfl rfl rfl rfl rfl (Enc.len ..) (Enc.allL ..)) <| Zw0 <| Zv (ya rfl) <| Znl <| Znx ?_
    refine Zsq <| Zsr <| Zv (yf 1 rfl) <| Zv (yd 0 rfl rfl rfl) <| Zk (c222 ..) [] rfl rfl <| Zq <| Zv (ynot rfl) <| Znl <| Znx <| Zib rfl (fun h38 => ?_) (fun h38 => ?_)
    refine Zsr <| Zv (ya rfl) <| Znl <| Znx <| Zrt <| Zr1 ?_
    rotate_left
    refine Zsk <| Znx <| Zsq <| Zsr <| Zv (ym rfl) <| Zv (ym rfl) <| Znl <| Znx <| Zbl ?_
    rotate_left
    · have hx : writesB (stateOf d.L (addr / 16)) = false := by simpa [stateOf] using h38
      have e1 : writeF d addr wd v = (d, 232) := by unfold writeF; rw [if_neg (by simp [hr]), if_pos hx]
      rw [e1] at hS
      refine Zfx [2,1,1,1] (cac_fold (b := b) (d := d) ok) rfl <| Zre (.t rfl .n) hS [0] 1 rfl rfl rfl rfl
    · have hx : ¬ writesB (stateOf d.L (addr / 16)) = false := by
        have : writesB (stateOf d.L (addr / 16)) = true := by simpa [stateOf] using h38
        simp [this]
      have e1 : writeF d addr wd v = (d.setL (putL d.n d.ways d.L (wrLn (fndL d.L (addr / 16)) addr wd v)), putE d.n d.ways d.L (wrLn (fndL d.L (addr / 16)) addr wd v)) := by unfold writeF; rw [if_neg (by simp [hr]), if_neg hx]
      generalize hxx : fndL d.L (addr / 16) = x at *
      have e3 : wrLn x addr wd v = (x.wr p v wd).st 3 := by unfold wrLn; rw [hp]; rfl
      rw [e3] at e1
      rw [e1] at hS
      have hp' : addr % 16 = (p : Int) := hp
      rw [hp]
      rw [hp] at w3
      refine Zlq (ι := { i : Nat // i ≤ wd }) (fun i => [(40, .int .i64 (i.1 : Int)), (39, .int .i64 (wd : Int)), (12, .pointer (some ⟨b12, 0, none⟩)), (10, .int .i64 (p : Int)), (3, .int .u32 v), (0, .pointer (some ⟨b, 0, none⟩))]) (fun i => [.blk b12 145 (lnE.cells (x.wr p v i.1))]) (fun i => wd - i.1) ⟨0, by omega⟩ ⟨rfl, rfl, rfl, rfl, rfl, rfl, trivial⟩ [0] rfl fun i => Zsr <| Zv (ylt rfl rfl) <| Znl <| Znx <| Zsq <| Zif rfl (fun h41 => ?_) (fun h41 => ?_)
      refine Zsk <| Znx <| Zsq <| Zbl <| Zsr <| Zv (ym rfl) <| Zv (ya rfl) <| Znl <| Znx <| Zrg ?_
      refine Zv (ym rfl) <| Zv (ym rfl) <| Zv (yadd rfl rfl (i64w rfl (by omega))) <| Zv (ym rfl) <| Zv (ym rfl) <| Zv (ymul rfl rfl (i64w rfl (by omega))) <| Zv (yshr rfl rfl (by omega) rfl) <| Zv (ycv Tryz.underlying40 Tryz.underlying5 rfl rfl) <| Zv (yf 2 rfl) <| Zv (yai Tryz.underlying115 rfl rfl (by omega)) ?_
      rotate_left
      refine Zex <| Zxt <| Zxt <| Zxx <| Znx <| Zsr <| Zv (yf 1 rfl) <| Ze (es 0 rfl rfl rfl (pt_st _ _) rfl) <| Zw0 <| Znl <| Znx ?_
      refine Zsq ?_
      rotate_left
      · refine Ze (es 0 rfl rfl rfl (pt_byte x p i.1 v (by omega)) rfl) <| Zw0 <| Znl <| Zxn <| Znx <| Zrg <| Zv (yadd rfl rfl (i64w rfl (by omega))) <| Zv (ym rfl) <| Znl ?_
        refine Zlr ⟨i.1 + 1, by omega⟩ (by show wd - (i.1 + 1) < wd - i.1; omega) ⟨rfl, rfl, rfl, rfl, rfl, rfl, trivial⟩ [0] 0 rfl rfl
      · have hi : i.1 = wd := by have := i.2; omega
        rw [hi]
        refine Zhd [1] rfl rfl <| Zht 0 rfl (ym rfl) <| Zht 1 rfl (yn rfl) <| Zht 2 rfl (yf 1 rfl) <| Zht 3 rfl (yd 1 rfl rfl rfl) <| Zht 4 rfl (ydw 0 (m := 18) rfl rfl (Enc.len ..)) ?_
        refine Zh1 5 (by kernel_rfl) <| Zok (c223 lb d.n d.ways d.L ((x.wr p v wd).st 3) (by have := ok.w0; omega) (Nat.le_trans ok.len (by decide))) [0] rfl rfl rfl <| Zqh 1 rfl <| Zht 6 rfl (ya rfl) <| Zhn (by kernel_rfl) <| Znx <| Zrt ?_
        have ok' := ok.put ((x.wr p v wd).st 3)
        refine Zfx [2,0,1,1] (cac_fold (b := b) (d := d.setL (putL d.n d.ways d.L ((x.wr p v wd).st 3))) ok') rfl <| Zre (.t rfl .n) hS [0] 1 rfl rfl rfl rfl
end Go.Proofs.YtpfijldkkfiooaaGreatDoor
