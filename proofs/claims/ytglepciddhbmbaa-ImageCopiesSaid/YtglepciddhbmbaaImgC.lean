/-
  The contracts of image.access for the two closures that read and write, and of Read and Write.
-/
import Derived.Test.YtglepciddhbmbaaImgB
namespace Go.Proofs.Ytglepciddhbmbaa
open Go.RowKit

theorem heap_top (w : World) (o : Obj) : (w.alloc o).heap[w.heap.size]? = some o := Go.heap_alloc_new w o

theorem run_findNow {P : Program} (w : World) {K : TypeId} {k : IntKind} (hK : P.underlying K = some (.int k)) {x : Value} {es : List MapEntry} {r : Option (Nat × Value)} (h : Instr.findNow (.int k) x es 0 = some r) :
    (Instr.findKey K x es).run P w = .ok r w := by
  simp [Instr.findKey, run_underlying hK, h]
theorem run_checkInt {P : Program} (w : World) {K : TypeId} {k : IntKind} (hK : P.underlying K = some (.int k)) (em : Bool) (n : Int) : (Instr.checkKey em 10000 K (.int k n)).run P w = .ok () w :=
  MapKept.run_checkKey hK (by simp [MapKept.IsKey]) em 9999
theorem run_insert_new {P : Program} (w : World) (t K E : TypeId) (k : IntKind) (ht : P.underlying t = some (.map K E)) (hK : P.underlying K = some (.int k)) (es : Array MapEntry) (c : Nat) (n : Int) (v : Value)
    (hnew : Instr.findNow (.int k) (.int k n) es.toList 0 = some none) :
    (Instr.mapUpdate t (.map (some w.heap.size)) (.int k n) v).run P (w.alloc (.map es c)) = .ok () (w.alloc (.map (es.push ⟨.int k n, v, c⟩) (c + 1))) := by
  have hr := heap_top w (.map es c)
  simp [Instr.mapUpdate, run_underlying ht, MapKept.run_getObj_map hr, run_checkInt _ hK, run_findNow _ hK hnew, MapKept.run_setObj_map _ hr, Result.andThen]
  simp only [World.alloc]
  congr 1
  apply Array.ext
  · simp
  · intro i h1 h2
    simp only [Array.size_setIfInBounds, Array.size_push] at h1
    rw [Array.getElem_setIfInBounds, Array.getElem_push, Array.getElem_push]
    by_cases h : i < w.heap.size
    · rw [if_neg (by omega), dif_pos h, dif_pos h]
    · rw [if_pos (by omega), dif_neg h]
    · simp
      omega
theorem run_look_some {P : Program} (w : World) (t K E : TypeId) (k : IntKind) (ht : P.underlying t = some (.map K E)) (hK : P.underlying K = some (.int k)) (r : Nat) (es : Array MapEntry) (c : Nat) (hr : w.heap[r]? = some (.map es c)) (n : Int) (i : Nat) (v : Value)
    (hfind : Instr.findNow (.int k) (.int k n) es.toList 0 = some (some (i, v))) (ok : Bool) :
    (Instr.lookup t (.map (some r)) (.int k n) ok).run P w = .ok (if ok then .tuple #[v, .bool true] else v) w := by
  simp [Instr.lookup, run_underlying ht, MapKept.run_getObj_map hr, run_checkInt _ hK, run_findNow _ hK hfind, Result.andThen]
theorem run_look_none {P : Program} (w : World) (t K E : TypeId) (k : IntKind) (ht : P.underlying t = some (.map K E)) (hK : P.underlying K = some (.int k)) (z : Value) (hz : (zeroValue E).run P w = .ok z w) (r : Nat) (es : Array MapEntry) (c : Nat) (hr : w.heap[r]? = some (.map es c)) (n : Int)
    (hfind : Instr.findNow (.int k) (.int k n) es.toList 0 = some none) (ok : Bool) :
    (Instr.lookup t (.map (some r)) (.int k n) ok).run P w = .ok (if ok then .tuple #[z, .bool false] else z) w := by
  simp [Instr.lookup, run_underlying ht, MapKept.run_getObj_map hr, run_checkInt _ hK, run_findNow _ hK hfind, hz, Result.andThen]

/-- The map of widths, as access makes it. -/
def widths : Array MapEntry := #[⟨.int .i64 1, .bool true, 0⟩, ⟨.int .i64 2, .bool true, 1⟩, ⟨.int .i64 4, .bool true, 2⟩]
theorem width_ins (w : World) : (Instr.mapUpdate 64 (.map (some w.heap.size)) (.int .i64 1) (.bool true)).run Try.prog (w.alloc (.map #[] 0)) = .ok () (w.alloc (.map #[⟨.int .i64 1, .bool true, 0⟩] 1)) :=
  run_insert_new w 64 3 4 .i64 Try.underlying64 Try.underlying3 _ _ _ _ rfl
theorem width_ins2 (w : World) : (Instr.mapUpdate 64 (.map (some w.heap.size)) (.int .i64 2) (.bool true)).run Try.prog (w.alloc (.map #[⟨.int .i64 1, .bool true, 0⟩] 1)) = .ok () (w.alloc (.map #[⟨.int .i64 1, .bool true, 0⟩, ⟨.int .i64 2, .bool true, 1⟩] 2)) :=
  run_insert_new w 64 3 4 .i64 Try.underlying64 Try.underlying3 _ _ _ _ rfl
theorem width_ins3 (w : World) : (Instr.mapUpdate 64 (.map (some w.heap.size)) (.int .i64 4) (.bool true)).run Try.prog (w.alloc (.map #[⟨.int .i64 1, .bool true, 0⟩, ⟨.int .i64 2, .bool true, 1⟩] 2)) = .ok () (w.alloc (.map widths 3)) :=
  run_insert_new w 64 3 4 .i64 Try.underlying64 Try.underlying3 _ _ _ _ rfl
theorem zero4 (w : World) : (zeroValue 4).run Try.prog w = .ok (.bool false) w := by kernel_rfl
theorem width_look (w : World) (n : Int) : (Instr.lookup 64 (.map (some w.heap.size)) (.int .i64 n) false).run Try.prog (w.alloc (.map widths 3)) = .ok (.bool (n == 1 || n == 2 || n == 4)) (w.alloc (.map widths 3)) := by
  by_cases h1 : n = 1
  · subst h1
    exact run_look_some _ 64 3 4 .i64 Try.underlying64 Try.underlying3 _ _ _ (heap_top w _) 1 0 (.bool true) rfl false
  · by_cases h2 : n = 2
    · subst h2
      exact run_look_some _ 64 3 4 .i64 Try.underlying64 Try.underlying3 _ _ _ (heap_top w _) 2 1 (.bool true) rfl false
    · by_cases h4 : n = 4
      · subst h4
        exact run_look_some _ 64 3 4 .i64 Try.underlying64 Try.underlying3 _ _ _ (heap_top w _) 4 2 (.bool true) rfl false
      · have e1 : (n == 1) = false := by simpa using h1
        have e2 : (n == 2) = false := by simpa using h2
        have e4 : (n == 4) = false := by simpa using h4
        have := run_look_none (P := Try.prog) (w.alloc (.map widths 3)) 64 3 4 .i64 Try.underlying64 Try.underlying3 (.bool false) (zero4 _) _ _ _ (heap_top w _) n (by simp [widths, Instr.findNow, Instr.sameNow, e1, e2, e4]) false
        rw [this, e1, e2, e4]
        rfl

/-- What is wrong with an access: 0: nothing. -/
def accErr (len : Nat) (addr : Nat) (width : Int) : Int :=
  if width = 1 ∨ width = 2 ∨ width = 4 then if addr % width.toNat ≠ 0 then 120 else if len ≤ addr then 4 else 0 else 2

set_option maxHeartbeats 1000000 in
theorem access_nil (a : Int) (n : Int) (v : Value) (w : World) :
    Calls Try.prog 29 #[.pointer none, .int .u32 a, .int .i64 n, v] w fun e w' => e = .returned (.int .i64 1) ∧ New w w' := by
  have hmm := @run_makeMap Try.prog
  have h1 := width_ins w
  have h2 := width_ins2 w
  have h3 := width_ins3 w
  go_enter Try.func29, Try.ntmps29
  go_wp2_with (go_at_call 31; refine (none_nil _).mono ?_; rintro e w' ⟨rfl, rfl⟩)
  go_ret
  exact ⟨rfl, (Only.refl _ _).alloc _⟩

set_option maxHeartbeats 1000000 in
theorem access_no {base b g cap : Nat} {bs : List UInt8} {w : World} (h : Img base w b g cap bs) (a : Nat) (ha : a < 4294967296) (n : Int) (v : Value) (hbad : accErr bs.length a n ≠ 0) :
    Calls Try.prog 29 #[.pointer (some ⟨b, 0, none⟩), .int .u32 a, .int .i64 n, v] w fun e w' => e = .returned (.int .i64 (accErr bs.length a n)) ∧ New w w' := by
  have hmm := @run_makeMap Try.prog
  have h1 := width_ins w
  have h2 := width_ins2 w
  have h3 := width_ins3 w
  have h4 := width_look w n
  have hp := h.pos
  have hc : (w.alloc (.map widths 3)).cell? ⟨b, 0, none⟩ = some (.slice (some ⟨g, 0, none⟩) bs.length cap) := ((Only.refl (fun _ => False) w).alloc _).cell h.cell id
  clear h
  unfold accErr at hbad ⊢
  by_cases hw : n = 1 ∨ n = 2 ∨ n = 4
  · rw [if_pos hw] at hbad ⊢
    by_cases hm : a % n.toNat ≠ 0
    · rw [if_pos hm]
      clear hbad
      rcases hw with rfl | rfl | rfl
      · exact absurd (Nat.mod_one a) hm
      · have hm' : ((a : Int) % 2 != 0) = true := by rw [bne_iff_ne]; simp at hm; omega
        clear hm
        go_enter Try.func29, Try.ntmps29
        go_wp2_with (go_at_call 31; refine (none_some _ _ _ _ _ hc).mono ?_; rintro e w' ⟨rfl, rfl⟩)
        go_ret
        exact ⟨rfl, (Only.refl _ _).alloc _⟩
      · have hm' : ((a : Int) % 4 != 0) = true := by rw [bne_iff_ne]; simp at hm; omega
        clear hm
        go_enter Try.func29, Try.ntmps29
        go_wp2_with (go_at_call 31; refine (none_some _ _ _ _ _ hc).mono ?_; rintro e w' ⟨rfl, rfl⟩)
        go_ret
        exact ⟨rfl, (Only.refl _ _).alloc _⟩
    · rw [if_neg hm] at hbad ⊢
      have hge : bs.length ≤ a := Classical.byContradiction fun h => by rw [if_neg h] at hbad; exact hbad rfl
      rw [if_pos hge]
      clear hbad
      rcases hw with rfl | rfl | rfl
      · clear hm
        go_enter Try.func29, Try.ntmps29
        go_wp2_with (go_at_call 31; refine (none_some _ _ _ _ _ hc).mono ?_; rintro e w' ⟨rfl, rfl⟩)
        go_ret
        exact ⟨rfl, (Only.refl _ _).alloc _⟩
      · have hm' : ((a : Int) % 2 != 0) = false := by rw [bne_eq_false_iff_eq]; simp at hm; omega
        clear hm
        go_enter Try.func29, Try.ntmps29
        go_wp2_with (go_at_call 31; refine (none_some _ _ _ _ _ hc).mono ?_; rintro e w' ⟨rfl, rfl⟩)
        go_ret
        exact ⟨rfl, (Only.refl _ _).alloc _⟩
      · have hm' : ((a : Int) % 4 != 0) = false := by rw [bne_eq_false_iff_eq]; simp at hm; omega
        clear hm
        go_enter Try.func29, Try.ntmps29
        go_wp2_with (go_at_call 31; refine (none_some _ _ _ _ _ hc).mono ?_; rintro e w' ⟨rfl, rfl⟩)
        go_ret
        exact ⟨rfl, (Only.refl _ _).alloc _⟩
  · have hw' : (n == 1 || n == 2 || n == 4) = false := by
      have h1 : (n == 1) = false := by simpa using fun h => hw (.inl h)
      have h2 : (n == 2) = false := by simpa using fun h => hw (.inr (.inl h))
      have h4 : (n == 4) = false := by simpa using fun h => hw (.inr (.inr h))
      rw [h1, h2, h4]; rfl
    rw [if_neg hw]
    clear hw hbad
    go_enter Try.func29, Try.ntmps29
    go_wp2_with (go_at_call 31; refine (none_some _ _ _ _ _ hc).mono ?_; rintro e w' ⟨rfl, rfl⟩)
    go_ret
    exact ⟨rfl, (Only.refl _ _).alloc _⟩

def ReadHas (w : World) (B : Nat) (n : Nat) (e : Ending) (w' : World) : Prop := e = .returned (.tuple #[]) ∧ w'.heap[B]? = some (.cells #[.int .u32 (n : Int)] 31 (0, 0)) ∧ Only (fun k => k = B) w w'

set_option maxHeartbeats 1000000 in
theorem read1 (g o n c B : Nat) (bs : List UInt8) (w : World) (hn : n = bs.length) (h4 : n ≤ 4) (hg : g ≠ B) (hcell : ∀ j u, (bs.map u8v)[j]? = some u → w.cell? ⟨g, o + j, none⟩ = some u)
    (hB : w.heap[B]? = some (.cells #[.int .u32 0] 31 (0, 0))) :
    Calls Try.prog 30 #[.slice (some ⟨g, o, none⟩) n c, .pointer (some ⟨B, 0, none⟩)] w (ReadHas w B (le bs)) := by
  have Hn := Lib.hid hn
  have Hc := Lib.hid hcell
  have HB := Lib.hid hB
  clear hn hcell hB
  go_enter Try.func30, Try.ntmps30
  go_wp2
  go_loopw [7] (fun i wr => ∃ k : Nat, k ≤ n ∧ i = .int .i64 k ∧ wr.heap[B]? = some (.cells #[.int .u32 (le (bs.take k) : Int)] 31 (0, 0)) ∧ Only (fun k => k = B) w wr) (fun i _ => n - (intOf i).toNat)
  case atStart => exact ⟨0, by omega, rfl, HB.out, Only.refl _ _⟩
  case round =>
    obtain ⟨k, hk, rfl, hBk, hO⟩ := hrel
    have HBk := Lib.hid hBk
    have HO := Lib.hid hO
    clear hBk hO
    by_cases hlt : k < n
    · have hcb : wr.cell? ⟨B, 0, none⟩ = some (.int .u32 (le (bs.take k) : Int)) := by rw [head_cell HBk.out]; rfl
      have hfb : wr.frozen? ⟨B, 0, none⟩ = false := head_free HBk.out 0
      have hkl : k < bs.length := by have := Hn.out; omega
      have hck : wr.cell? ⟨g, o + k, none⟩ = some (.int .u8 (bs[k].toNat : Int)) := HO.out.cell (Hc.out k (u8v bs[k]) (by rw [List.getElem?_map, List.getElem?_eq_getElem hkl]; rfl)) hg
      have Hor := Lib.hid (or_byte' bs k hkl (by have := Hn.out; omega))
      go_wp2
      go_region
      go_wp2
      go_roundw
      case rel =>
        refine ⟨k + 1, by omega, by go_num, ?_, (HO.out.setCell (fun _ => rfl) _).drew⟩
        rw [Hor.out]
        exact setCell_at HBk.out 0 _
      case measure => simp [intOf]; omega
    · obtain rfl : k = n := by omega
      go_wp2
      go_end0
      refine ⟨rfl, ?_, HO.out⟩
      have := HBk.out
      rwa [Hn.out, List.take_length] at this

def Wrote (w : World) (g o : Nat) (cur : Array Value) (l : List Value) (e : Ending) (w' : World) : Prop := e = .returned (.tuple #[]) ∧ w'.heap[g]? = some (.cells (upd cur o l) 5 (0, 0)) ∧ Only (fun k => k = g) w w'

set_option maxHeartbeats 1000000 in
theorem write1 (g o n c B v : Nat) (cur : Array Value) (w : World) (h4 : n ≤ 4) (hgB : g ≠ B) (hg : w.heap[g]? = some (.cells cur 5 (0, 0))) (hfit : o + n ≤ cur.size)
    (hB : w.heap[B]? = some (.cells #[.int .u32 v] 31 (0, 0))) :
    Calls Try.prog 33 #[.slice (some ⟨g, o, none⟩) n c, .pointer (some ⟨B, 0, none⟩)] w (Wrote w g o cur ((wbytes n v).map u8v)) := by
  have Hg := Lib.hid hg
  have HB := Lib.hid hB
  clear hg hB
  go_enter Try.func33, Try.ntmps33
  go_wp2
  go_loopw [6] (fun i wr => ∃ k : Nat, k ≤ n ∧ i = .int .i64 k ∧ wr.heap[g]? = some (.cells (upd cur o ((wbytes k v).map u8v)) 5 (0, 0)) ∧ Only (fun k => k = g) w wr) (fun i _ => n - (intOf i).toNat)
  case atStart => exact ⟨0, by omega, rfl, by simpa [wbytes, upd_nil] using Hg.out, Only.refl _ _⟩
  case round =>
    obtain ⟨k, hk, rfl, hgk, hO⟩ := hrel
    have Hgk := Lib.hid hgk
    have HO := Lib.hid hO
    clear hgk hO
    by_cases hlt : k < n
    · have hcb : wr.cell? ⟨B, 0, none⟩ = some (.int .u32 v) := by rw [head_cell (HO.out.heap HB.out (fun h => hgB h.symm))]; rfl
      have hfg : wr.frozen? ⟨g, o + k, none⟩ = false := head_free Hgk.out _
      have Hs : Hid (∀ u, (wr.setCell ⟨g, o + k, none⟩ u).heap[g]? = some (.cells (upd cur o ((wbytes k v).map u8v ++ [u])) 5 (0, 0))) := by
        intro u
        have := setCell_at Hgk.out (o + k) u
        have h := upd_snoc cur o ((wbytes k v).map u8v) u (by simp [wbytes_length]; omega)
        simp only [List.length_map, wbytes_length] at h
        rw [h] at this
        exact this
      have hcg : ∃ u, wr.cell? ⟨g, o + k, none⟩ = some u := by
        rw [head_cell Hgk.out]
        refine ⟨_, Array.getElem?_eq_getElem ?_⟩
        rw [size_upd _ _ _ (by simp [wbytes_length]; omega)]
        omega
      obtain ⟨u0, hcg⟩ := hcg
      go_wp2
      go_roundw
      case rel =>
        refine ⟨k + 1, by omega, by go_num, ?_, HO.out.setCell (fun _ => rfl) _⟩
        rw [wbytes_succ, List.map_append, List.map_cons, List.map_nil, wbyte]
        exact Hs.out _
      case measure => simp [intOf]; omega
    · obtain rfl : k = n := by omega
      go_wp2
      go_end0
      exact ⟨rfl, Hgk.out, HO.out⟩

theorem div_256 (v k : Nat) : v / 256 ^ k = v / 2 ^ (8 * k) := by rw [pow_256]

theorem take_splice {α : Type} (c l : List α) (o m : Nat) (h : o + l.length ≤ m) (hm : m ≤ c.length) : (c.take o ++ (l ++ c.drop (o + l.length))).take m = (c.take m).take o ++ (l ++ (c.take m).drop (o + l.length)) := by
  have hl : (c.take o).length = o := by simp; omega
  rw [List.take_append, hl, List.take_append, List.take_take, List.take_take, List.drop_take, List.take_of_length_le (l := l) (by omega), Nat.min_eq_right (show o ≤ m by omega), Nat.min_eq_left (show o ≤ m by omega), Nat.sub_sub]
/-- The image behind a write. -/
def wr (bs : List UInt8) (at_ n v : Nat) : List UInt8 := bs.take at_ ++ (wbytes n v ++ bs.drop (at_ + n))
theorem wr_length (bs : List UInt8) (at_ n v : Nat) (h : at_ + n ≤ bs.length) : (wr bs at_ n v).length = bs.length := by
  simp [wr, wbytes_length]
  omega
theorem Img.wrote {base b g cap : Nat} {bs : List UInt8} {w w' : World} (h : Img base w b g cap bs) {o n v : Nat} {cur : Array Value} {e : Ending} (hcur : w.heap[g]? = some (.cells cur 5 (0, 0))) (hfit : o + n ≤ bs.length)
    (k : Wrote w g o cur ((wbytes n v).map u8v) e w') : Img base w' b g cap (wr bs o n v) := by
  obtain ⟨_, hg, hO⟩ := k
  have hl := wr_length bs o n v hfit
  obtain ⟨cur', h0, h1, h2, h3, h4⟩ := row_at h.row
  obtain rfl : cur' = cur := by rw [hcur] at h0; simpa using h0.symm
  refine ⟨h.hb, h.hg, h.ne, by rw [hl]; exact h.ok, by rw [hl]; exact hO.heap h.head h.ne, ?_⟩
  rw [hl]
  refine row_mk h.hg hg h1 h2 ?_ ?_
  · rw [size_upd _ _ _ (by simp [wbytes_length]; omega), h3]
  · rw [Nat.mul_one] at h4 ⊢
    have hs := take_splice cur'.toList ((wbytes n v).map u8v) o bs.length (by simp [wbytes_length]; omega) (by simp; omega)
    simp only [List.length_map, wbytes_length] at hs
    simp only [upd, List.length_map, wbytes_length]
    rw [hs, h4]
    simp [wr]

theorem accErr_zero {len a : Nat} {n : Int} (h : accErr len a n = 0) : (n = 1 ∨ n = 2 ∨ n = 4) ∧ a % n.toNat = 0 ∧ a < len := by
  unfold accErr at h
  split at h
  · split at h
    · simp at h
    · split at h
      · simp at h
      · refine ⟨by assumption, by omega, by omega⟩
  · simp at h

theorem take_map_get {bs : List UInt8} {a n j : Nat} {u : Value} (h : (((bs.drop a).take n).map u8v)[j]? = some u) : (bs.map u8v)[a + j]? = some u ∧ j < n := by
  rw [List.getElem?_map, List.getElem?_take] at h
  by_cases hj : j < n
  · rw [if_pos hj, List.getElem?_drop] at h
    exact ⟨by rw [List.getElem?_map]; exact h, hj⟩
  · rw [if_neg hj] at h
    simp at h

set_option maxHeartbeats 1000000 in
theorem access_read {base b g cap : Nat} {bs : List UInt8} {w : World} (h : Img base w b g cap bs) (a : Nat) (n : Int) (hok : accErr bs.length a n = 0) (B : Nat) (hBg : g ≠ B)
    (hB : w.heap[B]? = some (.cells #[.int .u32 0] 31 (0, 0))) :
    Calls Try.prog 29 #[.pointer (some ⟨b, 0, none⟩), .int .u32 a, .int .i64 n, .func (.func 30) #[] #[.pointer (some ⟨B, 0, none⟩)]] w fun e w' => e = .returned (.int .i64 0) ∧
      w'.heap[B]? = some (.cells #[.int .u32 (le ((bs.drop a).take n.toNat) : Int)] 31 (0, 0)) ∧ Only (fun k => k = B) w w' := by
  have hmm := @run_makeMap Try.prog
  have h1 := width_ins w
  have h2 := width_ins2 w
  have h3 := width_ins3 w
  have h4 := width_look w n
  have hp := h.pos
  have hc : (w.alloc (.map widths 3)).cell? ⟨b, 0, none⟩ = some (.slice (some ⟨g, 0, none⟩) bs.length cap) := ((Only.refl (fun _ => False) w).alloc _).cell h.cell id
  obtain ⟨hw, hm, hlt⟩ := accErr_zero hok
  clear hok
  obtain ⟨_, _, hcap, hmax, _⟩ := row_at h.row
  unfold maxLen at hmax
  have hx : a + n.toNat ≤ bs.length := by
    have := (okSize_mul h.ok).2
    rcases hw with rfl | rfl | rfl <;> simp at hm ⊢ <;> omega
  have HR : Hid (Calls Try.prog 30 #[.slice (some ⟨g, a, none⟩) n.toNat n.toNat, .pointer (some ⟨B, 0, none⟩)] (w.alloc (.map widths 3)) (ReadHas (w.alloc (.map widths 3)) B (le ((bs.drop a).take n.toNat)))) := by
    refine read1 g a n.toNat n.toNat B ((bs.drop a).take n.toNat) _ (by simp; omega) (by rcases hw with rfl | rfl | rfl <;> simp) hBg ?_ (((Only.refl (fun _ => False) w).alloc _).heap hB id)
    intro j u hj
    obtain ⟨hj1, hj2⟩ := take_map_get hj
    refine ((Only.refl (fun _ => False) w).alloc _).cell ?_ id
    rw [row_cell h.row (by omega), hj1]
  clear h
  rcases hw with rfl | rfl | rfl
  · clear hm
    go_enter Try.func29, Try.ntmps29
    go_wp2_with (first | (go_at_call 31; refine (none_some _ _ _ _ _ hc).mono ?_; rintro e w' ⟨rfl, rfl⟩) | (go_at_call 30; refine HR.out.mono ?_; rintro e w' ⟨rfl, hB', hO⟩))
    go_ret
    exact ⟨rfl, hB', ((Only.refl _ w).alloc _).tr hO⟩
  · have hm' : ((a : Int) % 2 != 0) = false := by rw [bne_eq_false_iff_eq]; simp at hm; omega
    clear hm
    go_enter Try.func29, Try.ntmps29
    go_wp2_with (first | (go_at_call 31; refine (none_some _ _ _ _ _ hc).mono ?_; rintro e w' ⟨rfl, rfl⟩) | (go_at_call 30; refine HR.out.mono ?_; rintro e w' ⟨rfl, hB', hO⟩))
    go_ret
    exact ⟨rfl, hB', ((Only.refl _ w).alloc _).tr hO⟩
  · have hm' : ((a : Int) % 4 != 0) = false := by rw [bne_eq_false_iff_eq]; simp at hm; omega
    clear hm
    go_enter Try.func29, Try.ntmps29
    go_wp2_with (first | (go_at_call 31; refine (none_some _ _ _ _ _ hc).mono ?_; rintro e w' ⟨rfl, rfl⟩) | (go_at_call 30; refine HR.out.mono ?_; rintro e w' ⟨rfl, hB', hO⟩))
    go_ret
    exact ⟨rfl, hB', ((Only.refl _ w).alloc _).tr hO⟩

set_option maxHeartbeats 1000000 in
theorem access_write {base b g cap : Nat} {bs : List UInt8} {w : World} (h : Img base w b g cap bs) (a : Nat) (n : Int) (v : Nat) (hok : accErr bs.length a n = 0) (B : Nat) (hBg : g ≠ B)
    (hB : w.heap[B]? = some (.cells #[.int .u32 v] 31 (0, 0))) :
    Calls Try.prog 29 #[.pointer (some ⟨b, 0, none⟩), .int .u32 a, .int .i64 n, .func (.func 33) #[] #[.pointer (some ⟨B, 0, none⟩)]] w fun e w' => e = .returned (.int .i64 0) ∧
      Img base w' b g cap (wr bs a n.toNat v) ∧ Only (fun k => k = g) w w' := by
  have hmm := @run_makeMap Try.prog
  have h1 := width_ins w
  have h2 := width_ins2 w
  have h3 := width_ins3 w
  have h4 := width_look w n
  have hp := h.pos
  have hc : (w.alloc (.map widths 3)).cell? ⟨b, 0, none⟩ = some (.slice (some ⟨g, 0, none⟩) bs.length cap) := ((Only.refl (fun _ => False) w).alloc _).cell h.cell id
  obtain ⟨hw, hm, hlt⟩ := accErr_zero hok
  clear hok
  obtain ⟨cur, hcur, hcap, hmax, hsz, _⟩ := row_at h.row
  unfold maxLen at hmax
  have hx : a + n.toNat ≤ bs.length := by
    have := (okSize_mul h.ok).2
    rcases hw with rfl | rfl | rfl <;> simp at hm ⊢ <;> omega
  have hN : New w (w.alloc (.map widths 3)) := (Only.refl _ w).alloc _
  have HN := Lib.hid hN
  clear hN
  have hcur' := HN.out.heap hcur id
  have HR : Hid (Calls Try.prog 33 #[.slice (some ⟨g, a, none⟩) n.toNat n.toNat, .pointer (some ⟨B, 0, none⟩)] (w.alloc (.map widths 3)) (Wrote (w.alloc (.map widths 3)) g a cur ((wbytes n.toNat v).map u8v))) :=
    write1 g a n.toNat n.toNat B v cur _ (by rcases hw with rfl | rfl | rfl <;> simp) hBg hcur' (by omega) (HN.out.heap hB id)
  have HW : Hid (∀ w', w'.heap[g]? = some (.cells (upd cur a ((wbytes n.toNat v).map u8v)) 5 (0, 0)) → Only (fun k => k = g) (w.alloc (.map widths 3)) w' → Img base w' b g cap (wr bs a n.toNat v) ∧ Only (fun k => k = g) w w') := by
    intro w' h1 h2
    exact ⟨(h.new HN.out).wrote (e := .returned (.tuple #[])) hcur' hx ⟨rfl, h1, h2⟩, (Only.ofNew HN.out).tr h2⟩
  clear h hcur hsz hcur'
  rcases hw with rfl | rfl | rfl
  · clear hm
    go_enter Try.func29, Try.ntmps29
    go_wp2_with (first | (go_at_call 31; refine (none_some _ _ _ _ _ hc).mono ?_; rintro e w' ⟨rfl, rfl⟩) | (go_at_call 33; refine HR.out.mono ?_; rintro e w' ⟨rfl, hB', hO⟩))
    go_ret
    exact ⟨rfl, HW.out _ hB' hO⟩
  · have hm' : ((a : Int) % 2 != 0) = false := by rw [bne_eq_false_iff_eq]; simp at hm; omega
    clear hm
    go_enter Try.func29, Try.ntmps29
    go_wp2_with (first | (go_at_call 31; refine (none_some _ _ _ _ _ hc).mono ?_; rintro e w' ⟨rfl, rfl⟩) | (go_at_call 33; refine HR.out.mono ?_; rintro e w' ⟨rfl, hB', hO⟩))
    go_ret
    exact ⟨rfl, HW.out _ hB' hO⟩
  · have hm' : ((a : Int) % 4 != 0) = false := by rw [bne_eq_false_iff_eq]; simp at hm; omega
    clear hm
    go_enter Try.func29, Try.ntmps29
    go_wp2_with (first | (go_at_call 31; refine (none_some _ _ _ _ _ hc).mono ?_; rintro e w' ⟨rfl, rfl⟩) | (go_at_call 33; refine HR.out.mono ?_; rintro e w' ⟨rfl, hB', hO⟩))
    go_ret
    exact ⟨rfl, HW.out _ hB' hO⟩

/-- What a read tells. -/
def rdSpec (bs : List UInt8) (a : Nat) (n : Int) : Nat := if accErr bs.length a n = 0 then le ((bs.drop a).take n.toNat) else 0

set_option maxHeartbeats 1000000 in
theorem read_nil (a n : Int) (w : World) : Calls Try.prog 18 #[.pointer none, .int .u32 a, .int .i64 n] w fun e w' => e = .returned (.tuple #[.int .u32 0, .int .i64 1]) ∧ New w w' := by
  have H : Hid (∀ W v, Calls Try.prog 29 #[.pointer none, .int .u32 a, .int .i64 n, v] W fun e w' => e = .returned (.int .i64 1) ∧ ∃ W', W' = w' ∧ New W W' ∧ ∀ p u, W.cell? p = some u → W'.cell? p = some u) := by
    intro W v
    exact (access_nil a n v W).mono fun e w' ⟨h1, h2⟩ => ⟨h1, w', rfl, h2, fun p u h => h2.cell h id⟩
  go_enter Try.func18, Try.ntmps18
  go_wp2_with (go_at_call 29; refine (H.out _ _).mono ?_; rintro e w' ⟨rfl, w1, rfl, hN, hcc⟩; have HN := Lib.hid hN; have hc1 := hcc ⟨w.heap.size, 0, none⟩ (.int .u32 0) (by simp [go_sem]); clear hcc hN)
  go_ret2
  exact ⟨rfl, ((Only.refl _ w).alloc _).tr HN.out⟩

set_option maxHeartbeats 1000000 in
theorem read_any {base b g cap : Nat} {bs : List UInt8} {w : World} (h : Img base w b g cap bs) (a : Nat) (ha : a < 4294967296) (n : Int) :
    Calls Try.prog 18 #[.pointer (some ⟨b, 0, none⟩), .int .u32 a, .int .i64 n] w fun e w' => e = .returned (.tuple #[.int .u32 (rdSpec bs a n : Int), .int .i64 (accErr bs.length a n)]) ∧ New w w' := by
  have hN0 : New w (w.alloc (.cells #[.int .u32 0] 31)) := (Only.refl _ w).alloc _
  have h0 : (w.alloc (.cells #[.int .u32 0] 31)).heap[w.heap.size]? = some (.cells #[.int .u32 0] 31 (0, 0)) := Go.heap_alloc_new w _
  have H : Hid (Calls Try.prog 29 #[.pointer (some ⟨b, 0, none⟩), .int .u32 a, .int .i64 n, .func (.func 30) #[] #[.pointer (some ⟨w.heap.size, 0, none⟩)]] (w.alloc (.cells #[.int .u32 0] 31)) fun e w' => e = .returned (.int .i64 (accErr bs.length a n)) ∧ ∃ W', W' = w' ∧ New w W' ∧ W'.cell? ⟨w.heap.size, 0, none⟩ = some (.int .u32 (rdSpec bs a n : Int))) := by
    have hi := h.new hN0
    have hl := h.lt
    unfold rdSpec
    by_cases hok : accErr bs.length a n = 0
    · rw [if_pos hok, hok]
      refine (access_read hi a n hok w.heap.size (by omega) h0).mono fun e w' ⟨h1, h2, h3⟩ => ⟨h1, w', rfl, hN0.trans h3 (by intro i hi he; omega), ?_⟩
      rw [head_cell h2]
      rfl
    · rw [if_neg hok]
      refine (access_no hi a ha n _ hok).mono fun e w' ⟨h1, h2⟩ => ⟨h1, w', rfl, hN0.trNew h2, ?_⟩
      rw [head_cell (h2.heap h0 id)]
      rfl
  clear h hN0 h0
  go_enter Try.func18, Try.ntmps18
  go_wp2_with (go_at_call 29; refine H.out.mono ?_; rintro e w' ⟨rfl, w1, rfl, hN, hc1⟩; have HN := Lib.hid hN; clear hN)
  go_ret2
  exact ⟨rfl, HN.out⟩

set_option maxHeartbeats 1000000 in
theorem write_nil (a n v : Int) (w : World) : Calls Try.prog 21 #[.pointer none, .int .u32 a, .int .i64 n, .int .u32 v] w fun e w' => e = .returned (.int .i64 1) ∧ New w w' := by
  go_enter Try.func21, Try.ntmps21
  go_wp2_with (go_at_call 29; refine (access_nil a n _ _).mono ?_; rintro e w' ⟨rfl, hN⟩; have HN := Lib.hid hN; clear hN)
  go_ret
  exact ⟨rfl, ((Only.refl _ w).alloc _).tr HN.out⟩

set_option maxHeartbeats 1000000 in
theorem write_no {base b g cap : Nat} {bs : List UInt8} {w : World} (h : Img base w b g cap bs) (a : Nat) (ha : a < 4294967296) (n v : Int) (hbad : accErr bs.length a n ≠ 0) :
    Calls Try.prog 21 #[.pointer (some ⟨b, 0, none⟩), .int .u32 a, .int .i64 n, .int .u32 v] w fun e w' => e = .returned (.int .i64 (accErr bs.length a n)) ∧ New w w' := by
  have hN0 : New w (w.alloc (.cells #[.int .u32 v] 31)) := (Only.refl _ w).alloc _
  have H := Lib.hid fun x => access_no (h.new hN0) a ha n x hbad
  clear h hN0 hbad
  go_enter Try.func21, Try.ntmps21
  go_wp2_with (go_at_call 29; refine (H.out _).mono ?_; rintro e w' ⟨rfl, hN⟩; have HN := Lib.hid hN; clear hN)
  go_ret
  exact ⟨rfl, ((Only.refl _ w).alloc _).tr HN.out⟩

set_option maxHeartbeats 1000000 in
theorem write_yes {base b g cap : Nat} {bs : List UInt8} {w : World} (h : Img base w b g cap bs) (a : Nat) (n : Int) (v : Nat) (hok : accErr bs.length a n = 0) :
    Calls Try.prog 21 #[.pointer (some ⟨b, 0, none⟩), .int .u32 a, .int .i64 n, .int .u32 v] w fun e w' => e = .returned (.int .i64 0) ∧ Img base w' b g cap (wr bs a n.toNat v) ∧ Only (fun k => k = g) w w' := by
  have hN0 : New w (w.alloc (.cells #[.int .u32 v] 31)) := (Only.refl _ w).alloc _
  have hl := h.lt
  have H := Lib.hid (access_write (h.new hN0) a n v hok w.heap.size (by omega) (Go.heap_alloc_new w _))
  clear h hN0 hok hl
  go_enter Try.func21, Try.ntmps21
  go_wp2_with (go_at_call 29; refine H.out.mono ?_; rintro e w' ⟨rfl, hI, hO⟩; have HI := Lib.hid hI; have HO := Lib.hid hO; clear hI hO)
  go_ret
  exact ⟨rfl, HI.out, ((Only.refl _ w).alloc _).tr HO.out⟩
end Go.Proofs.Ytglepciddhbmbaa
