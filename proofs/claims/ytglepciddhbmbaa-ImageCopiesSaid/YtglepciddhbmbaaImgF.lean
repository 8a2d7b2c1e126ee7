/-
  The contract of the reference's Write; the argument []byte opened.
-/
import Derived.Test.YtglepciddhbmbaaImgE
namespace Go.Proofs.Ytglepciddhbmbaa
open Go.RowKit

theorem wr_zero (bs : List UInt8) (a v : Nat) : wr bs a 0 v = bs := by simp [wr, wbytes]
theorem wr_step (bs : List UInt8) (a k v : Nat) (h : a + k < bs.length) : (wr bs a k v).set (a + k) (UInt8.ofNat (v / 256 ^ k)) = wr bs a (k + 1) v := by
  have hl : (bs.take a).length = a := by simp; omega
  simp only [wr]
  rw [List.set_append_right _ _ (by omega), hl, List.set_append_right _ _ (by rw [wbytes_length]; omega), wbytes_length, show a + k - a - k = 0 by omega, List.drop_eq_getElem_cons h, wbytes_succ]
  simp [Nat.add_assoc]

set_option maxRecDepth 100000 in
set_option maxHeartbeats 1000000 in
theorem refwrite_c (b o n0 cap a n v : Nat) (bs : List UInt8) (w : World) (hn0 : n0 = bs.length) (h0 : 0 < n0) (h1 : n0 ≤ 4096) (hn4 : n ≤ 4) (hfit : a + n ≤ n0) (hv : v < 4294967296) (hcell : ∀ j u, (bs.map u8v)[j]? = some u → w.cell? ⟨b, o + j, none⟩ = some u) :
    Calls Try.prog 23 #[.slice (some ⟨b, o, none⟩) n0 cap, .int .u32 a, .int .i64 n, .int .u32 v] w (OwnsBytes w.heap.size (wr bs a n v) w) := by
  obtain ⟨i0, hi, hz0, hz1, hz2⟩ := info_parts info5
  have Hi := Lib.hid (And.intro hi (And.intro hz0 (And.intro hz1 hz2)))
  clear hi hz0 hz1 hz2
  have Hn := Lib.hid hn0
  have Hl : Hid ((bs.map u8v).length = n0 * 1) := by show _ = _; simp [hn0]
  have Hcell : Hid (∀ j u, (bs.map u8v)[j]? = some u → (w.alloc (.cells #[] 5)).cell? ((⟨b, o, none⟩ : Addr).add j) = some u) := by
    intro j u hj
    rw [addr_add]
    exact ((Only.refl (fun _ => False) w).alloc _).cell (hcell j u hj) (by simp)
  clear hn0 hcell
  go_enter Try.func23, Try.ntmps23
  go_wp2_with (at_builtin; refine wpList_append_grows _ rfl _ _ 30 rfl 5 i0 (.int .u8 0) 1 1 Try.underlying30 Hi.out.1 Hi.out.2.1 Hi.out.2.2.1 Hi.out.2.2.2 rfl (by decide) (some ⟨w.heap.size, 0, none⟩) 0 0 [] rfl (by simp) rfl (by simp) ⟨b, o, none⟩ n0 cap (bs.map u8v) rfl Hl.out Hcell.out (u8v_one _) (by omega) (by unfold maxLen; omega) (by omega) ?_; intro v1 w1 hown hgrow; rw [Nat.zero_add, List.nil_append] at hown; obtain ⟨g1, cap1, rfl⟩ := row_some hown h0; have HO := Lib.hid hown; have HG := Lib.hid hgrow; clear hown hgrow)
  go_loopw [3, 10] (fun x i wr => ∃ k : Nat, k ≤ n ∧ i = .int .i64 k ∧ x = .int .u32 ((v / 256 ^ k : Nat) : Int) ∧ wr.ownsRow w.heap.size 5 1 (.slice (some ⟨g1, 0, none⟩) n0 cap1) n0 ((Go.Proofs.Ytglepciddhbmbaa.wr bs a k v).map u8v) ∧ New w wr) (fun _ i _ => n - (intOf i).toNat)
  case atStart =>
    refine ⟨0, by omega, rfl, by simp, ?_, ((Only.refl _ w).alloc _).tr (Only.ofGrown HG.out (by simp))⟩
    rw [wr_zero]
    exact row_mono HO.out (by simp)
  case round =>
    obtain ⟨k, hk, rfl, rfl, hr, hN⟩ := hrel
    have HR := Lib.hid hr
    have HN := Lib.hid hN
    clear hr hN
    by_cases hlt : k < n
    · have hfg : wr.frozen? ⟨g1, a + k, none⟩ = false := HR.out.frozenAt _
      have hcg : ∃ u, wr.cell? ⟨g1, a + k, none⟩ = some u := by
        rw [row_cell HR.out (by omega)]
        exact ⟨_, List.getElem?_eq_getElem (by have := HR.out.1; omega)⟩
      obtain ⟨u0, hcg⟩ := hcg
      have Hst := Lib.hid (HR.out.stored (a + k) (u8v (UInt8.ofNat (v / 256 ^ k))))
      have Hw := Lib.hid (wr_step bs a k v (by have := Hn.out; omega))
      have hle : v / 256 ^ k ≤ v := Nat.div_le_self _ _
      have Hb : Hid (.int .u8 (((v / 256 ^ k : Nat) : Int) % 256) = u8v (UInt8.ofNat (v / 256 ^ k))) := by
        show _ = _
        simp only [u8v, UInt8.toNat_ofNat']
        congr 1
      generalize hx : v / 256 ^ k = x at *
      have Hx := Lib.hid hx
      clear hx
      go_wp2
      go_roundw
      case rel =>
        refine ⟨k + 1, by omega, by go_num, ?_, ?_, HN.out.setCell (fun h => absurd h (by have := row_lt HR.out; simp; omega)) _⟩
        · rw [Nat.pow_succ, ← Nat.div_div_eq_div_mul, Hx.out]
          go_num
        · rw [← Hw.out, List.map_set]
          have := Hst.out.1
          rw [← Hb.out] at this
          rw [← Hb.out]
          simpa using this
      case measure => simp [intOf]; omega
    · obtain rfl : k = n := by omega
      go_wp2
      go_ret
      refine ⟨_, rfl, ?_, HN.out⟩
      have h := HR.out
      have hl := wr_length bs a k v (by have := Hn.out; omega)
      rw [hl, ← Hn.out]
      exact h
end Go.Proofs.Ytglepciddhbmbaa
