/-
  The contracts of the statements' 'sized' and of the reference's Refused, Read, Write.
-/
import Derived.Test.YtglepciddhbmbaaImgD
namespace Go.Proofs.Ytglepciddhbmbaa
open Go.RowKit

/-- The value is a slice that reads as these bytes (nil and empty ones too). -/
def ByteArg (w : World) (v : Value) (bs : List UInt8) : Prop :=
  ∃ a cap, v = .slice a bs.length cap ∧ bs.length ≤ maxLen ∧ (bs ≠ [] → ∃ b o, a = some ⟨b, o, none⟩ ∧ ∀ j u, (bs.map u8v)[j]? = some u → w.cell? ⟨b, o + j, none⟩ = some u)

def Sized (base : Nat) (w : World) (e : Ending) (w' : World) : Prop :=
  ∃ (g : Nat) (bs : List UInt8), e = .returned (.slice (some ⟨g, 0, none⟩) bs.length bs.length) ∧ okSize bs.length = true ∧ w'.ownsRow base 5 1 (.slice (some ⟨g, 0, none⟩) bs.length bs.length) bs.length (bs.map u8v) ∧ New w w'

theorem okSize_dbl {n : Int} (h : okSize n = true) (h1 : n < 4096) : okSize (n * 2) = true := by
  rw [okSize_iff] at h ⊢
  omega

theorem get_u8v {bs : List UInt8} {k : Nat} (h : k < bs.length) : (bs.map u8v)[k]? = some (.int .u8 (bs[k].toNat : Int)) := by
  rw [List.getElem?_map, List.getElem?_eq_getElem h]
  rfl

set_option maxRecDepth 100000 in
set_option maxHeartbeats 1000000 in
theorem sized_c (v : Value) (bs : List UInt8) (wide : Int) (w : World) (hv : ByteArg w v bs) :
    Calls Try.prog 16 #[v, .int .i64 wide] w (Sized w.heap.size w) := by
  obtain ⟨a, cap, rfl, hmax, hcs⟩ := hv
  unfold maxLen at hmax
  have Hcs := Lib.hid hcs
  clear hcs
  obtain ⟨i0, hi, hz0, hz1, hz2⟩ := info_parts info5
  have Hi := Lib.hid (And.intro hi (And.intro hz0 (And.intro hz1 hz2)))
  clear hi hz0 hz1 hz2
  go_enter Try.func16, Try.ntmps16
  go_wp2
  go_loop [5] (fun i => ∃ n : Nat, i = .int .i64 n ∧ 16 ≤ n ∧ n ≤ 4096 ∧ okSize n = true) (fun i => (4096 - intOf i).toNat)
  case atStart => exact ⟨16, rfl, by omega, by omega, by decide⟩
  case round =>
    obtain ⟨n, rfl, hn1, hn2, hok⟩ := hrel
    have Hok := Lib.hid hok
    clear hok
    by_cases hlt : n < 4096 ∧ (n : Int) < wide
    · obtain ⟨hlt1, hlt2⟩ := hlt
      have H2 := Lib.hid (okSize_dbl Hok.out (by omega))
      go_wp2
      go_round
      case rel => exact ⟨n * 2, by go_num, by omega, by have := okSize_range H2.out; omega, by simpa using H2.out⟩
      case measure => simp [intOf]; omega
    · have hby : Hid (i0.bytes * n ≤ 281474976710656) := by
        show _ ≤ _
        rw [Hi.out.2.2.2]; omega
      have hstop : (n < 4096 ∧ ¬ (n : Int) < wide) ∨ ¬ n < 4096 := by omega
      clear hlt
      rcases hstop with ⟨hs1, hs2⟩ | hs1
      all_goals
        go_wp2_with (at_make; refine wpList_make_full _ rfl _ _ _ rfl w.heap.size 5 i0 (.int .u8 0) 1 Try.underlying30 Hi.out.1 Hi.out.2.1 Hi.out.2.2.1 .i64 .i64 n n n rfl rfl rfl rfl hby.out (by unfold maxLen; omega) (Nat.le_refl _) ?_; intro w1 hown hgrow; have HO := Lib.hid hown; have HG := Lib.hid hgrow; clear hown hgrow)
        go_loopw [7] (fun i wr => ∃ (k : Nat) (xs : List UInt8), i = .int .i64 k ∧ k ≤ n ∧ xs.length = n ∧ wr.ownsRow w.heap.size 5 1 (.slice (some ⟨w.heap.size, 0, none⟩) n n) n (xs.map u8v) ∧ New w wr) (fun i _ => n - (intOf i).toNat)
        case atStart =>
          refine ⟨0, List.replicate n 0, rfl, by omega, by simp, ?_, Only.ofGrown HG.out (by simp)⟩
          have := HO.out
          rw [show (Value.int IntKind.u8 0).cells = #[Value.int IntKind.u8 0] from rfl, toList_madeCells_one] at this
          simpa [u8v] using this
        case round =>
          obtain ⟨k, xs, rfl, hk, hxs, hr, hN⟩ := hrel
          have HX := Lib.hid (And.intro hxs (And.intro hr hN))
          clear hxs hr hN
          by_cases hkn : k < n ∧ 0 < bs.length
          · obtain ⟨hk1, hk2⟩ := hkn
            obtain ⟨b, o, hab, hcell⟩ := Hcs.out (by intro h; rw [h] at hk2; simp at hk2)
            subst hab
            have hml : k % bs.length < bs.length := Nat.mod_lt _ hk2
            have hck : wr.cell? ⟨b, o + k % bs.length, none⟩ = some (.int .u8 (bs[k % bs.length].toNat : Int)) := HX.out.2.2.cell (hcell _ _ (get_u8v hml)) id
            have hcg : wr.cell? ⟨w.heap.size, k, none⟩ = some (.int .u8 ((xs[k]'(by have := HX.out.1; omega)).toNat : Int)) := by
              rw [row_cell HX.out.2.1 (by omega)]
              exact get_u8v _
            have hfg : wr.frozen? ⟨w.heap.size, k, none⟩ = false := HX.out.2.1.frozenAt k
            have Hst := Lib.hid (HX.out.2.1.stored k (u8v bs[k % bs.length]))
            clear hcell
            go_wp2
            go_roundw
            case rel =>
              refine ⟨k + 1, xs.set k bs[k % bs.length], by go_num, by omega, by simpa using HX.out.1, ?_, HX.out.2.2.setCell (fun h => absurd h (by simp)) _⟩
              rw [List.map_set]
              exact Hst.out.1
            case measure => simp [intOf]; omega
          · have hstop : (k < n ∧ ¬ 0 < bs.length) ∨ ¬ k < n := by omega
            clear hkn
            rcases hstop with ⟨h1, h2⟩ | h1
            all_goals
              go_wp2
              go_ret
              obtain ⟨hx1, hx2, hx3⟩ := HX.out
              subst hx1
              exact ⟨w.heap.size, xs, rfl, Hok.out, hx2, hx3⟩

set_option maxHeartbeats 1000000 in
theorem refused_c (a0 : Option Addr) (len cap a : Nat) (n : Int) (ha : a < 4294967296) (_hl : len ≤ 9223372036854775807) (w : World) :
    Calls Try.prog 20 #[.slice a0 len cap, .int .u32 a, .int .i64 n] w fun e w' => e = .returned (.int .i64 (accErr len a n)) ∧ w = w' := by
  unfold accErr
  by_cases hw : n = 1 ∨ n = 2 ∨ n = 4
  · rw [if_pos hw]
    by_cases hm : a % n.toNat ≠ 0
    · rw [if_pos hm]
      rcases hw with rfl | rfl | rfl
      · exact absurd (Nat.mod_one a) hm
      · have hm' : ((a : Int) % 2 != 0) = true := by rw [bne_iff_ne]; simp at hm; omega
        clear hm
        go_enter Try.func20, Try.ntmps20
        go_wp2
        go_ret
        exact ⟨rfl, rfl⟩
      · have hm' : ((a : Int) % 4 != 0) = true := by rw [bne_iff_ne]; simp at hm; omega
        clear hm
        go_enter Try.func20, Try.ntmps20
        go_wp2
        go_ret
        exact ⟨rfl, rfl⟩
    · rw [if_neg hm]
      by_cases hge : len ≤ a
      · rw [if_pos hge]
        rcases hw with rfl | rfl | rfl
        · clear hm
          go_enter Try.func20, Try.ntmps20
          go_wp2
          go_ret
          exact ⟨rfl, rfl⟩
        · have hm' : ((a : Int) % 2 != 0) = false := by rw [bne_eq_false_iff_eq]; simp at hm; omega
          clear hm
          go_enter Try.func20, Try.ntmps20
          go_wp2
          go_ret
          exact ⟨rfl, rfl⟩
        · have hm' : ((a : Int) % 4 != 0) = false := by rw [bne_eq_false_iff_eq]; simp at hm; omega
          clear hm
          go_enter Try.func20, Try.ntmps20
          go_wp2
          go_ret
          exact ⟨rfl, rfl⟩
      · rw [if_neg hge]
        rcases hw with rfl | rfl | rfl
        · clear hm
          go_enter Try.func20, Try.ntmps20
          go_wp2
          go_ret
          exact ⟨rfl, rfl⟩
        · have hm' : ((a : Int) % 2 != 0) = false := by rw [bne_eq_false_iff_eq]; simp at hm; omega
          clear hm
          go_enter Try.func20, Try.ntmps20
          go_wp2
          go_ret
          exact ⟨rfl, rfl⟩
        · have hm' : ((a : Int) % 4 != 0) = false := by rw [bne_eq_false_iff_eq]; simp at hm; omega
          clear hm
          go_enter Try.func20, Try.ntmps20
          go_wp2
          go_ret
          exact ⟨rfl, rfl⟩
  · rw [if_neg hw]
    have h1 : (n != 1) = true := by rw [bne_iff_ne]; exact fun h => hw (.inl h)
    have h2 : (n != 2) = true := by rw [bne_iff_ne]; exact fun h => hw (.inr (.inl h))
    have h4 : (n != 4) = true := by rw [bne_iff_ne]; exact fun h => hw (.inr (.inr h))
    clear hw
    go_enter Try.func20, Try.ntmps20
    go_wp2
    go_ret
    exact ⟨rfl, rfl⟩

/-- The value of the bytes from the place k on, the highest ahead. -/
theorem le_cons (c : UInt8) (l : List UInt8) : le (c :: l) = c.toNat + 256 * le l := rfl
theorem le_drop (l : List UInt8) (k : Nat) (h : k < l.length) : le (l.drop k) = l[k].toNat + 256 * le (l.drop (k + 1)) := by
  rw [List.drop_eq_getElem_cons h, le_cons]
theorem le_drop_lt (l : List UInt8) (k : Nat) (h : l.length ≤ 4) (h1 : 1 ≤ k) : le (l.drop k) < 16777216 := by
  have := le_lt (l.drop k)
  rw [List.length_drop] at this
  have h2 : 256 ^ (l.length - k) ≤ 256 ^ 3 := Nat.pow_le_pow_right (by omega) (by omega)
  omega

set_option maxHeartbeats 1000000 in
theorem refread_c (g o len cap a n : Nat) (l : List UInt8) (w : World) (ha : a < 4294967296) (hn : n = l.length) (h4 : n ≤ 4) (hfit : a + n ≤ len) (hlen : len ≤ 4096)
    (hcell : ∀ k, (h : k < l.length) → w.cell? ⟨g, o + (a + k), none⟩ = some (.int .u8 (l[k].toNat : Int))) :
    Calls Try.prog 22 #[.slice (some ⟨g, o, none⟩) len cap, .int .u32 a, .int .i64 n] w fun e w' => e = .returned (.int .u32 (le l : Int)) ∧ w = w' := by
  have Hn := Lib.hid hn
  have Hc := Lib.hid hcell
  clear hn hcell
  go_enter Try.func22, Try.ntmps22
  go_wp2
  go_loop [7, 8] (fun x i => ∃ k : Nat, k ≤ n ∧ i = .int .i64 (k - 1 : Int) ∧ x = .int .u32 (le (l.drop k) : Int)) (fun _ i => (intOf i + 1).toNat)
  case atStart =>
    refine ⟨n, by omega, rfl, ?_⟩
    rw [List.drop_eq_nil_of_le (by have := Hn.out; omega)]
    rfl
  case round =>
    obtain ⟨k, hk, rfl, rfl⟩ := hrel
    by_cases hk0 : 1 ≤ k
    · obtain ⟨j, rfl⟩ : ∃ j, k = j + 1 := ⟨k - 1, by omega⟩
      have hjl : j < l.length := by have := Hn.out; omega
      have hck := Hc.out j hjl
      have hd := Lib.hid (le_drop l j hjl)
      have hlt := le_drop_lt l (j + 1) (by have := Hn.out; omega) (by omega)
      have hb := l[j].toNat_lt
      rw [show (((j + 1 : Nat) : Int) - 1) = (j : Int) by omega]
      go_wp2
      go_round
      case rel => exact ⟨j, by omega, by go_num, by rw [hd.out]; go_num⟩
      case measure => simp [intOf]
    · obtain rfl : k = 0 := by omega
      go_wp2
      go_ret
      exact ⟨by simp, rfl⟩
end Go.Proofs.Ytglepciddhbmbaa
