/-
  The contracts of image.New, Of, Size, none, over an image in memory.
-/
import Derived.Test.YtglepciddhbmbaaImgPlain
namespace Go.Proofs.Ytglepciddhbmbaa
open Go.RowKit

theorem info5 : (Try.prog.info? 5).map (fun i => (i.zero, i.size, i.bytes)) = some (some (.int .u8 0), 1, 1) := by kernel_rfl

/-- The image at block b has the bytes bs, in a row of the block g. -/
structure Img (base : Nat) (w : World) (b g cap : Nat) (bs : List UInt8) : Prop where
  hb : base ≤ b
  hg : base ≤ g
  ne : b ≠ g
  ok : okSize bs.length = true
  head : w.heap[b]? = some (.cells #[.slice (some ⟨g, 0, none⟩) bs.length cap] 58 (0, 0))
  row : w.ownsRow base 5 1 (.slice (some ⟨g, 0, none⟩) bs.length cap) bs.length (bs.map u8v)

set_option maxHeartbeats 400000 in
theorem num_c (n : Int) (w : World) :
    Calls Try.prog 13 #[.int .i64 n] w fun e w' => e = .returned (.int .i64 n) ∧ w = w' := by
  go_enter Try.func13, Try.ntmps13
  go_wp2
  go_ret
  exact ⟨rfl, rfl⟩

set_option maxHeartbeats 400000 in
theorem new_no (n : Int) (w : World) (h : okSize n = false) :
    Calls Try.prog 11 #[.int .i64 n] w fun e w' => e = .returned (.tuple #[.pointer none, .int .i64 2]) ∧ w = w' := by
  by_cases h1 : n < 16
  · go_enter Try.func11, Try.ntmps11
    go_wp2
    go_ret2
    exact ⟨rfl, rfl⟩
  · by_cases h2 : 4096 < n
    · go_enter Try.func11, Try.ntmps11
      go_wp2
      go_ret2
      exact ⟨rfl, rfl⟩
    · have hb := okSize_int n (by omega) (by omega)
      rw [h] at hb
      clear h
      go_enter Try.func11, Try.ntmps11
      go_wp2
      go_ret2
      exact ⟨rfl, rfl⟩

def NewYes (n : Nat) (w : World) (e : Ending) (w' : World) : Prop :=
  ∃ b g cap, e = .returned (.tuple #[.pointer (some ⟨b, 0, none⟩), .int .i64 0]) ∧ Img w.heap.size w' b g cap (List.replicate n 0) ∧ New w w'

set_option maxHeartbeats 400000 in
theorem new_yes (n : Nat) (w : World) (h : okSize n = true) :
    Calls Try.prog 11 #[.int .i64 n] w (NewYes n w) := by
  have hb := okSize_int n (okSize_range h).1 (okSize_range h).2
  have hr := okSize_range h
  obtain ⟨hr1, hr2⟩ := hr
  rw [h] at hb
  have H := Lib.hid h
  clear h
  obtain ⟨i0, hi, hz0, hz1, hz2⟩ := info_parts info5
  have hby : i0.bytes * n ≤ 281474976710656 := by rw [hz2]; omega
  go_enter Try.func11, Try.ntmps11
  go_wp2_with (at_make; refine wpList_make_full _ rfl _ _ _ rfl w.heap.size 5 i0 (.int .u8 0) 1 Try.underlying30 hi hz0 hz1 .i64 .i64 n n n rfl rfl rfl rfl hby (by unfold maxLen; omega) (Nat.le_refl _) ?_; intro w1 hown hgrow)
  go_ret2
  have hlt := (row_lt hown).2
  have hrow := (Only.refl (fun _ => False) w1).alloc (.cells #[.slice (some ⟨w.heap.size, 0, none⟩) n n] 58) |>.row hown (by simp)
  refine ⟨w1.heap.size, w.heap.size, n, rfl, ⟨hgrow.size, Nat.le_refl _, by omega, ?_, ?_, ?_⟩, (Only.ofGrown hgrow (by simp)).alloc _⟩
  · simpa using H.out
  · simpa using Go.heap_alloc_new w1 _
  · rw [show (Value.int IntKind.u8 0).cells = #[Value.int IntKind.u8 0] from rfl, toList_madeCells_one] at hrow
    simpa [u8v] using hrow

theorem Img.pos {base : Nat} {w : World} {b g cap : Nat} {bs : List UInt8} (h : Img base w b g cap bs) : 16 ≤ bs.length ∧ bs.length ≤ 4096 := by
  have := okSize_range h.ok
  omega
theorem Img.cell {base : Nat} {w : World} {b g cap : Nat} {bs : List UInt8} (h : Img base w b g cap bs) : w.cell? ⟨b, 0, none⟩ = some (.slice (some ⟨g, 0, none⟩) bs.length cap) := by
  rw [head_cell h.head]; rfl
theorem Img.only {S : Nat → Prop} {base : Nat} {w w' : World} {b g cap : Nat} {bs : List UInt8} (h : Img base w b g cap bs) (k : Only S w w') (h1 : ¬ S b) (h2 : ¬ S g) : Img base w' b g cap bs :=
  ⟨h.hb, h.hg, h.ne, h.ok, k.heap h.head h1, k.row h.row (by simp [Value.ownBlock]; exact h2)⟩
theorem Img.new {base : Nat} {w w' : World} {b g cap : Nat} {bs : List UInt8} (h : Img base w b g cap bs) (k : New w w') : Img base w' b g cap bs := h.only k id id
theorem Img.mono {base base' : Nat} {w : World} {b g cap : Nat} {bs : List UInt8} (h : Img base w b g cap bs) (k : base' ≤ base) : Img base' w b g cap bs :=
  ⟨Nat.le_trans k h.hb, Nat.le_trans k h.hg, h.ne, h.ok, h.head, row_mono h.row k⟩
theorem Img.lt {base : Nat} {w : World} {b g cap : Nat} {bs : List UInt8} (h : Img base w b g cap bs) : b < w.heap.size ∧ g < w.heap.size :=
  ⟨(Array.getElem?_eq_some_iff.1 h.head).1, (row_lt h.row).2⟩

set_option maxHeartbeats 400000 in
theorem none_nil (w : World) : Calls Try.prog 31 #[.pointer none] w fun e w' => e = .returned (.bool true) ∧ w = w' := by
  go_enter Try.func31, Try.ntmps31
  go_wp2
  go_ret
  exact ⟨rfl, rfl⟩

set_option maxHeartbeats 400000 in
theorem none_some (b : Nat) (a : Addr) (n c : Nat) (w : World) (h : w.cell? ⟨b, 0, none⟩ = some (.slice (some a) n c)) :
    Calls Try.prog 31 #[.pointer (some ⟨b, 0, none⟩)] w fun e w' => e = .returned (.bool false) ∧ w = w' := by
  have hs := fun (w : World) a l c => Lib.run_eql_slice_nil w 30 5 a l c 0 0 Try.underlying30
  go_enter Try.func31, Try.ntmps31
  go_wp2
  go_ret
  exact ⟨rfl, rfl⟩

set_option maxHeartbeats 400000 in
theorem size_nil (w : World) : Calls Try.prog 15 #[.pointer none] w fun e w' => e = .returned (.int .i64 0) ∧ w = w' := by
  go_enter Try.func15, Try.ntmps15
  go_wp2
  go_ret
  exact ⟨rfl, rfl⟩

set_option maxHeartbeats 400000 in
theorem size_some (b : Nat) (a : Addr) (n c : Nat) (w : World) (h : w.cell? ⟨b, 0, none⟩ = some (.slice (some a) n c)) :
    Calls Try.prog 15 #[.pointer (some ⟨b, 0, none⟩)] w fun e w' => e = .returned (.int .i64 n) ∧ w = w' := by
  go_enter Try.func15, Try.ntmps15
  go_wp2
  go_ret
  exact ⟨rfl, rfl⟩

theorem u8v_one (bs : List UInt8) : ∀ u ∈ bs.map u8v, u.oneCell' = true := by
  intro u hu
  obtain ⟨x, _, rfl⟩ := List.mem_map.1 hu
  rfl

def OwnsBytes (base : Nat) (bs : List UInt8) (w : World) (e : Ending) (w' : World) : Prop :=
  ∃ v, e = .returned v ∧ w'.ownsRow base 5 1 v bs.length (bs.map u8v) ∧ New w w'

set_option maxHeartbeats 400000 in
theorem clone_some (b o n c : Nat) (bs : List UInt8) (w : World) (hn : n = bs.length) (h0 : 0 < n) (h1 : n ≤ 10000) (hcell : ∀ j u, (bs.map u8v)[j]? = some u → w.cell? ⟨b, o + j, none⟩ = some u) :
    Calls Try.prog 32 #[.slice (some ⟨b, o, none⟩) n c] w (OwnsBytes w.heap.size bs w) := by
  have hs := fun (w : World) a l c => Lib.run_eql_slice_nil w 30 5 a l c 0 0 Try.underlying30
  obtain ⟨i0, hi, hz0, hz1, hz2⟩ := info_parts info5
  have Hn := Lib.hid hn
  have hl : (bs.map u8v).length = n * 1 := by simp [hn]
  have Hl := Lib.hid hl
  have Hcell : Hid (∀ j u, (bs.map u8v)[j]? = some u → (w.alloc (.cells #[] 5)).cell? ((⟨b, o, none⟩ : Addr).add j) = some u) := by
    intro j u hj
    rw [addr_add]
    exact ((Only.refl (fun _ => False) w).alloc _).cell (hcell j u hj) (by simp)
  clear hn hl hcell
  go_enter Try.func32, Try.ntmps32
  go_wp2_with (at_builtin; refine wpList_append_grows _ rfl _ _ 30 rfl 5 i0 (.int .u8 0) 1 1 Try.underlying30 hi hz0 hz1 hz2 rfl (by decide) (some ⟨w.heap.size, 0, none⟩) 0 0 [] rfl (by simp) rfl (by simp) ⟨b, o, none⟩ n c (bs.map u8v) rfl Hl.out Hcell.out (u8v_one _) (by omega) (by unfold maxLen; omega) (by omega) ?_; intro v1 w1 hown hgrow)
  go_ret
  simp only [Nat.zero_add, List.nil_append] at hown
  refine ⟨_, rfl, ?_, ((Only.refl _ w).alloc _).tr (Only.ofGrown hgrow (by simp))⟩
  rw [← Hn.out]
  exact row_mono hown (by simp)

set_option maxHeartbeats 400000 in
theorem bytes_nil (w : World) : Calls Try.prog 19 #[.pointer none] w fun e w' => e = .returned (.slice none 0 0) ∧ w = w' := by
  go_enter Try.func19, Try.ntmps19
  go_wp2_with (go_at_call 31; refine (none_nil _).mono ?_; rintro e w' ⟨rfl, rfl⟩)
  go_ret
  exact ⟨rfl, rfl⟩

set_option maxHeartbeats 400000 in
theorem bytes_some {base b g cap : Nat} {bs : List UInt8} {w : World} (h : Img base w b g cap bs) :
    Calls Try.prog 19 #[.pointer (some ⟨b, 0, none⟩)] w (OwnsBytes w.heap.size bs w) := by
  have hc := h.cell
  have hp := h.pos
  have H : Hid (∀ j u, (bs.map u8v)[j]? = some u → w.cell? ⟨g, 0 + j, none⟩ = some u) := by
    intro j u hj
    have hjl : j < bs.length := by
      have := (List.getElem?_eq_some_iff.1 hj).1
      simpa using this
    rw [Nat.zero_add, row_cell h.row (by omega), hj]
  clear h
  go_enter Try.func19, Try.ntmps19
  go_wp2_with (first | (go_at_call 31; refine (none_some _ _ _ _ _ hc).mono ?_; rintro e w' ⟨rfl, rfl⟩) | (go_at_call 32; refine (clone_some g 0 _ cap bs _ rfl (by omega) (by omega) H.out).mono ?_; rintro e w' ⟨v, rfl, hown, hnew⟩))
  go_ret
  exact ⟨_, rfl, hown, hnew⟩

end Go.Proofs.Ytglepciddhbmbaa
