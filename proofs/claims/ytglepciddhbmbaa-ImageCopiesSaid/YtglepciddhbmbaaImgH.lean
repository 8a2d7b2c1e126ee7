/-
  The contracts of Line of none, and of the reference's Line.
-/
import Derived.Test.YtglepciddhbmbaaImgG
namespace Go.Proofs.Ytglepciddhbmbaa
open Go.RowKit

theorem zcells : (#[.int .u8 0, .int .u8 0, .int .u8 0, .int .u8 0, .int .u8 0, .int .u8 0, .int .u8 0, .int .u8 0, .int .u8 0, .int .u8 0, .int .u8 0, .int .u8 0, .int .u8 0, .int .u8 0, .int .u8 0, .int .u8 0] : Array Value) = (zline.map u8v).toArray := by rfl

set_option maxHeartbeats 1000000 in
theorem line_nil (a : Int) (w : World) :
    Calls Try.prog 25 #[.pointer none, .int .u32 a] w fun e w' => e = .returned (.tuple #[lineV zline, .int .i64 1]) ∧ New w w' := by
  have H : Hid (∀ z, z = (zline.map u8v).toArray → Calls Try.prog 34 #[.pointer none, .int .u32 a, .func (.func 36) #[] #[.pointer (some ⟨w.heap.size + 1, 0, none⟩)]] ((w.alloc (.cells z 46)).alloc (.cells z 46)) fun e w' => e = .returned (.int .i64 1) ∧
      w'.heap[w.heap.size + 1]? = some (.cells (zline.map u8v).toArray 46 (0, 0)) ∧ w'.heap[w.heap.size]? = some (.cells (zline.map u8v).toArray 46 (0, 0)) ∧ New w w') := by
    rintro z rfl
    refine (linef_nil a _ _).mono ?_
    rintro e w' ⟨rfl, rfl⟩
    exact ⟨rfl, Go.heap_alloc2_new w _ _, Go.heap_alloc2_old w _ _, ((Only.refl _ w).alloc _).alloc _⟩
  unfold lineV
  have hall := u8v_all zline
  have hz := zcells
  generalize hcs : (zline.map u8v).toArray = cs at *
  have hsz : (Try.prog.info? 46).map (·.size) = some cs.size := by rw [size46, ← hcs]; rfl
  have HF := Lib.hid (And.intro hsz hall)
  have Hz := Lib.hid hz
  have Hs : Hid (cs.size = 16) := by show _ = _; rw [← hcs]; rfl
  clear hall hcs hsz hz
  go_enter Try.func25, Try.ntmps25
  go_wp2_with (first | (go_at_call 34; refine (H.out _ Hz.out).mono ?_; rintro e w1 ⟨rfl, h1, h0, hn⟩; have HN := Lib.hid (And.intro h1 (And.intro h0 hn)); clear h1 h0 hn) | (refine wpList_load_row (o := ⟨some 12, _, _, _, _, _⟩) rfl 46 _ rfl (w.heap.size + 1) rfl 46 cs (0, 0) _ HN.out.1 Try.underlying46 rfl HF.out.1 ?_) | (refine wpList_store_row (o := ⟨none, _, _, _, _, _⟩) rfl 46 _ _ rfl w.heap.size cs rfl rfl 46 _ HN.out.2.1 HF.out.1 rfl HF.out.2 ?_))
  refine bodyPost_ret (results_line rfl _ _ w.heap.size cs _ rfl rfl (setRow_self' HN.out.2.1) Hs.out) rfl ⟨rfl, HN.out.2.2.setRow (fun h => absurd h (by omega)) _⟩

set_option maxHeartbeats 1000000 in
theorem refline_c (g o n cap a : Nat) (ls : List UInt8) (w : World) (hl : ls.length = 16) (hfit : 16 * a + 16 ≤ n) (hn : n ≤ 4096)
    (hcell : ∀ k, (h : k < ls.length) → w.cell? ⟨g, o + (16 * a + k), none⟩ = some (.int .u8 (ls[k].toNat : Int))) :
    Calls Try.prog 26 #[.slice (some ⟨g, o, none⟩) n cap, .int .u32 a] w fun e w' => e = .returned (lineV ls) ∧ New w w' := by
  have Hc := Lib.hid hcell
  have Hl := Lib.hid hl
  have Hz := Lib.hid zcells
  have H0 := Lib.hid (fun (z : Array Value) => Go.heap_alloc2_old w (.cells z 46) (.cells z 46))
  have H1 := Lib.hid (fun (z : Array Value) => Go.heap_alloc2_new w (.cells z 46) (.cells z 46))
  clear hcell hl
  go_enter Try.func26, Try.ntmps26
  go_wp2
  rw [Hz.out]
  go_loopw [6] (fun i wr => ∃ k : Nat, k ≤ 16 ∧ i = .int .i64 k ∧ wr.heap[w.heap.size + 1]? = some (.cells (upd (zline.map u8v).toArray 0 ((ls.take k).map u8v)) 46 (0, 0)) ∧ wr.heap[w.heap.size]? = some (.cells (zline.map u8v).toArray 46 (0, 0)) ∧ New w wr) (fun i _ => 16 - (intOf i).toNat)
  case atStart => exact ⟨0, by omega, rfl, by rw [List.take_zero, List.map_nil, upd_nil]; exact H1.out _, H0.out _, ((Only.refl _ w).alloc _).alloc _⟩
  case round =>
    obtain ⟨k, hk, rfl, h1, h0, hN⟩ := hrel
    have HN := Lib.hid (And.intro h1 (And.intro h0 hN))
    clear h1 h0 hN
    by_cases hlt : k < 16
    · have hkl : k < ls.length := by have := Hl.out; omega
      have hck : wr.cell? ⟨g, o + (16 * a + k), none⟩ = some (.int .u8 (ls[k].toNat : Int)) := HN.out.2.2.cell (Hc.out k hkl) id
      have hfg : wr.frozen? ⟨w.heap.size + 1, k, none⟩ = false := head_free HN.out.1 _
      have Hs : Hid (∀ u, (wr.setCell ⟨w.heap.size + 1, k, none⟩ u).heap[w.heap.size + 1]? = some (.cells (upd (zline.map u8v).toArray 0 ((ls.take k).map u8v ++ [u])) 46 (0, 0))) := by
        intro u
        have := setCell_at HN.out.1 k u
        have h := upd_snoc (zline.map u8v).toArray 0 ((ls.take k).map u8v) u (by simp [zline]; omega)
        simp only [List.length_map, List.length_take, Nat.zero_add, Nat.min_eq_left (show k ≤ ls.length by omega)] at h
        rw [h] at this
        exact this
      have hcg : ∃ u, wr.cell? ⟨w.heap.size + 1, k, none⟩ = some u := by
        rw [head_cell HN.out.1]
        refine ⟨_, Array.getElem?_eq_getElem ?_⟩
        rw [size_upd _ _ _ (by simp [zline]; omega)]
        simp [zline]
        omega
      obtain ⟨u0, hcg⟩ := hcg
      have hb := ls[k].toNat_lt
      go_wp2
      go_roundw
      case rel =>
        refine ⟨k + 1, by omega, by go_num, ?_, ?_, HN.out.2.2.setCell (fun h => absurd h (by simp)) _⟩
        · rw [take_succ ls k hkl, List.map_append]
          exact Hs.out _
        · rw [Below.heap_setCell _ _ _ _ (by simp)]
          exact HN.out.2.1
      case measure => simp [intOf]; omega
    · obtain rfl : k = 16 := by omega
      have hu : upd (zline.map u8v).toArray 0 ((ls.take 16).map u8v) = (ls.map u8v).toArray := by
        rw [List.take_of_length_le (by have := Hl.out; omega)]
        simp [upd, Hl.out, zline]
      have h1 := HN.out.1
      rw [hu] at h1
      have hall := u8v_all ls
      have hs : (ls.map u8v).toArray.size = 16 := by simp [Hl.out]
      obtain ⟨cs, hcs⟩ : ∃ cs, cs = (ls.map u8v).toArray := ⟨_, rfl⟩
      rw [← hcs] at h1 hall hs
      have HF : Hid ((Try.prog.info? 46).map (·.size) = some cs.size ∧ (zline.map u8v).toArray.size = cs.size ∧ cs.all (·.oneCell') = true ∧ wr.heap[w.heap.size + 1]? = some (.cells cs 46 (0, 0)) ∧ cs.size = 16) := by
        refine ⟨by rw [size46, hs], by rw [hs]; rfl, hall, h1, hs⟩
      have Hcs := Lib.hid hcs
      clear hall hs hcs h1 hu
      go_wp2_with (first | (refine wpList_load_row (o := ⟨some 21, _, _, _, _, _⟩) rfl 46 _ rfl (w.heap.size + 1) rfl 46 cs (0, 0) _ HF.out.2.2.2.1 Try.underlying46 rfl HF.out.1 ?_) | (refine wpList_store_row (o := ⟨none, _, _, _, _, _⟩) rfl 46 (.tmp 4) _ rfl w.heap.size cs rfl rfl 46 _ HN.out.2.1 HF.out.1 HF.out.2.1 HF.out.2.2.1 ?_))
      refine bodyPost_ret (results_cell_row rfl _ _ w.heap.size 46 cs (0, 0) _ rfl (setRow_self' HN.out.2.1) Try.underlying46 rfl HF.out.1) rfl ⟨by rw [Hcs.out]; rfl, HN.out.2.2.setRow (fun h => absurd h (by omega)) _⟩
end Go.Proofs.Ytglepciddhbmbaa
