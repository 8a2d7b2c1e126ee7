/-
  The contracts of bytes.Equal, image.Copy, image.Same, image.Of.
-/
import Derived.Test.YtglepciddhbmbaaImgA
namespace Go.Proofs.Ytglepciddhbmbaa
open Go.RowKit

/-- Bytes as a string. -/
def str (bs : List UInt8) : ByteArray := ⟨bs.toArray⟩
theorem str_list (a : List UInt8) : (str a).toList = a := by rw [ByteArray.toList_eq]; simp [str]
theorem str_inj (a b : List UInt8) : ((str a).toList == (str b).toList) = decide (a = b) := by
  rw [str_list, str_list, Bool.eq_iff_iff]
  simp
theorem conv_bytes (w : World) (b o n c : Nat) (bs : List UInt8) (hn : n = bs.length) (hcell : ∀ j u, (bs.map u8v)[j]? = some u → w.cell? ⟨b, o + j, none⟩ = some u) :
    (convert 30 9 (.slice (some ⟨b, o, none⟩) n c)).run Try.prog w = .ok (.string (str bs)) w := by
  have h := run_convert_bytes_arg (P := Try.prog) w 30 5 Try.underlying30 Try.underlying5 b o n c (bs.map fun x => (x.toNat : Int)) (by simp [hn]) (fun i hi => by
    rw [hcell i (u8v (bs[i]'(by omega))) (by rw [List.getElem?_map, List.getElem?_eq_getElem (by omega)]; rfl)]
    simp [u8v, List.getD, List.getElem?_eq_getElem (show i < bs.length by omega)]) 9 Try.underlying9
  rw [h]
  congr 2
  simp [strOfNums, str, Function.comp_def]

theorem sees_cells {w : World} {base : Nat} {g cap n : Nat} {bs : List UInt8} (h : w.ownsRow base 5 1 (.slice (some ⟨g, 0, none⟩) n cap) n (bs.map u8v)) : ∀ j u, (bs.map u8v)[j]? = some u → w.cell? ⟨g, 0 + j, none⟩ = some u := by
  intro j u hj
  have hjl : j < n * 1 := by
    have := (List.getElem?_eq_some_iff.1 hj).1
    have := h.1
    omega
  rw [Nat.zero_add, row_cell h hjl, hj]

set_option maxHeartbeats 400000 in
theorem equal_c (w : World) (b o n c b' o' n' c' : Nat) (bs bs' : List UInt8) (hn : n = bs.length) (hn' : n' = bs'.length) (hcell : ∀ j u, (bs.map u8v)[j]? = some u → w.cell? ⟨b, o + j, none⟩ = some u)
    (hcell' : ∀ j u, (bs'.map u8v)[j]? = some u → w.cell? ⟨b', o' + j, none⟩ = some u) :
    Calls Try.prog 37 #[.slice (some ⟨b, o, none⟩) n c, .slice (some ⟨b', o', none⟩) n' c'] w fun e w' => e = .returned (.bool (decide (bs = bs'))) ∧ w' = w := by
  have e1 := conv_bytes w b o n c bs hn hcell
  have e2 := conv_bytes w b' o' n' c' bs' hn' hcell'
  have e3 := str_inj bs bs'
  clear hn hn' hcell hcell'
  go_enter Try.func37, Try.ntmps37
  go_wp2
  go_ret
  exact ⟨rfl, rfl⟩

set_option maxHeartbeats 400000 in
theorem same_some {base b g cap b' g' cap' : Nat} {bs bs' : List UInt8} {w : World} (h : Img base w b g cap bs) (h' : Img base w b' g' cap' bs') :
    Calls Try.prog 28 #[.pointer (some ⟨b, 0, none⟩), .pointer (some ⟨b', 0, none⟩)] w fun e w' => e = .returned (.bool (decide (bs = bs'))) ∧ New w w' := by
  have hc := h.cell
  have hc' := h'.cell
  have H : Hid (∀ n : Nat, Calls Try.prog 37 #[.slice (some ⟨g, 0, none⟩) bs.length cap, .slice (some ⟨g', 0, none⟩) bs'.length cap'] (w.drewN n) fun e w' => e = .returned (.bool (decide (bs = bs'))) ∧ w' = w.drewN n) := by
    intro n
    exact equal_c _ g 0 _ cap g' 0 _ cap' bs bs' rfl rfl (sees_cells h.row) (sees_cells h'.row)
  clear h h'
  go_enter Try.func28, Try.ntmps28
  go_wp2_with (go_at_call 31; (with_reducible refine (none_some _ _ _ _ _ (by assumption)).mono ?_); rintro e w' ⟨rfl, rfl⟩)
  go_quiet ((go_at_call 37; exact Calls.quiet_of_same (H.out _)))
  go_wp2
  go_ret
  exact ⟨rfl, (Only.refl _ _).drewN _⟩

def IsImg (base : Nat) (bs : List UInt8) (w : World) (e : Ending) (w' : World) : Prop :=
  ∃ b g cap, e = .returned (.pointer (some ⟨b, 0, none⟩)) ∧ Img base w' b g cap bs ∧ New w w'

set_option maxHeartbeats 400000 in
theorem copy_nil (w : World) : Calls Try.prog 27 #[.pointer none] w fun e w' => e = .returned (.pointer none) ∧ w = w' := by
  go_enter Try.func27, Try.ntmps27
  go_wp2_with (go_at_call 31; refine (none_nil _).mono ?_; rintro e w' ⟨rfl, rfl⟩)
  go_ret
  exact ⟨rfl, rfl⟩

set_option maxHeartbeats 400000 in
theorem copy_some {base b g cap : Nat} {bs : List UInt8} {w : World} (h : Img base w b g cap bs) :
    Calls Try.prog 27 #[.pointer (some ⟨b, 0, none⟩)] w (IsImg w.heap.size bs w) := by
  have hc := h.cell
  have hp := h.pos
  have hok := Lib.hid h.ok
  have H := Lib.hid (bytes_some h)
  clear h
  go_enter Try.func27, Try.ntmps27
  go_wp2_with (first | (go_at_call 31; refine (none_some _ _ _ _ _ hc).mono ?_; rintro e w' ⟨rfl, rfl⟩) | (go_at_call 19; refine H.out.mono ?_; rintro e w1 ⟨v, rfl, hown, hnew⟩; obtain ⟨g1, cap1, rfl⟩ := row_some hown (by omega)))
  go_ret
  have hlt := row_lt hown
  have hsz := hnew.size
  refine ⟨w1.heap.size, g1, cap1, rfl, ⟨by omega, hlt.1, by omega, hok.out, ?_, ?_⟩, hnew.alloc _⟩
  · simpa using Go.heap_alloc_new w1 _
  · exact ((Only.refl (fun _ => False) w1).alloc _).row hown (by simp)

set_option maxHeartbeats 400000 in
theorem of_no (v : Value) (a : Option Addr) (n c : Nat) (hv : v = .slice a n c) (w : World) (h : okSize n = false) :
    Calls Try.prog 17 #[v] w fun e w' => e = .returned (.tuple #[.pointer none, .int .i64 2]) ∧ w = w' := by
  subst hv
  have H := Lib.hid h
  clear h
  go_enter Try.func17, Try.ntmps17
  go_wp2_with (go_at_call 11; refine (new_no _ _ H.out).mono ?_; rintro e w' ⟨rfl, rfl⟩)
  go_ret2
  exact ⟨rfl, rfl⟩

def TwoImg (base : Nat) (bs : List UInt8) (w : World) (e : Ending) (w' : World) : Prop :=
  ∃ b g cap, e = .returned (.tuple #[.pointer (some ⟨b, 0, none⟩), .int .i64 0]) ∧ Img base w' b g cap bs ∧ New w w'

theorem size5 : (Try.prog.info? 5).map (·.size) = some 1 := by kernel_rfl

/-- What the copy into a fresh image wants, and what it leaves. -/
theorem of_facts {b o n : Nat} {bs : List UInt8} {w w1 : World} {b1 g1 cap1 : Nat} (hn : n = bs.length) (hcell : ∀ j u, (bs.map u8v)[j]? = some u → w.cell? ⟨b, o + j, none⟩ = some u)
    (hok : okSize bs.length = true) (himg : Img w.heap.size w1 b1 g1 cap1 (List.replicate n 0)) (hnew : New w w1) :
    ∃ cur, w1.heap[g1]? = some (.cells cur 5 (0, 0)) ∧ (∀ j u, (bs.map u8v)[j]? = some u → w1.cell? ((⟨b, o, none⟩ : Addr).add j) = some u) ∧ (bs.map u8v).length = n.min n ∧ 0 + (bs.map u8v).length ≤ cur.size ∧
      TwoImg w.heap.size bs w (.returned (.tuple #[.pointer (some ⟨b1, 0, none⟩), .int .i64 0])) (w1.setRow g1 (bs.map u8v ++ cur.toList.drop bs.length).toArray) := by
  obtain ⟨cur, hg, h1, h2, h3, h4⟩ := row_at himg.row
  simp only [List.length_replicate] at h1 h4
  refine ⟨cur, hg, fun j u hj => by rw [addr_add]; exact hnew.cell (hcell j u hj) id, by rw [List.length_map, ← hn]; exact (Nat.min_self n).symm, by rw [List.length_map]; omega, b1, g1, cap1, rfl, ⟨himg.hb, himg.hg, himg.ne, hok, ?_, ?_⟩, (hnew.setRow (fun h => by have := himg.hg; omega) _)⟩
  · rw [setRow_other _ _ _ _ himg.ne]
    have := himg.head
    rwa [List.length_replicate, hn] at this
  · refine row_mk himg.hg (setRow_self' hg) (by omega) h2 ?_ ?_
    · simp
      omega
    · simp

set_option maxHeartbeats 400000 in
theorem of_yes (b o n c : Nat) (bs : List UInt8) (w : World) (hn : n = bs.length) (hcell : ∀ j u, (bs.map u8v)[j]? = some u → w.cell? ⟨b, o + j, none⟩ = some u) (h : okSize bs.length = true) :
    Calls Try.prog 17 #[.slice (some ⟨b, o, none⟩) n c] w (TwoImg w.heap.size bs w) := by
  have hr := okSize_range h
  have hr1 : n ≤ 4096 := by omega
  have hr2 : 16 ≤ n := by omega
  clear hr
  have H := Lib.hid h
  have Hn := Lib.hid hn
  have HN : Hid (okSize n = true) := by rw [hn]; exact h
  clear h hn
  have Hc := Lib.hid hcell
  clear hcell
  go_enter Try.func17, Try.ntmps17
  go_wp2_with (first | (go_at_call 11; refine (new_yes _ _ HN.out).mono ?_; rintro e w1 ⟨b1, g1, cap1, rfl, himg, hnew⟩; have hc1 := himg.cell; rw [List.length_replicate] at hc1; obtain ⟨cur, hF⟩ := of_facts Hn.out Hc.out H.out himg hnew; have HF := Lib.hid hF; clear himg hF) | (refine wpList_copy_own (o := ⟨some 20, _, _, _, _, _⟩) rfl _ _ 30 30 rfl 5 Try.underlying30 size5 g1 0 n cap1 ⟨b, o, none⟩ n c rfl rfl cur 5 HF.out.1 (bs.map u8v) HF.out.2.2.1 HF.out.2.1 HF.out.2.2.2.1 (u8v_one _) ?_))
  go_ret2
  exact HF.out.2.2.2.2
end Go.Proofs.Ytglepciddhbmbaa
