/-
  The walk of ImageSingle.
-/
import Derived.Test.YtglepciddhbmbaaImgOpen
namespace Go.Proofs.Ytglepciddhbmbaa
open Go.RowKit

theorem accErr_one (len a : Nat) : accErr len a 1 = if len ≤ a then 4 else 0 := by simp [accErr, Nat.mod_one]
theorem rdSpec_one {bs : List UInt8} {a : Nat} (h : a < bs.length) : rdSpec bs a 1 = bs[a].toNat := by
  rw [rdSpec, accErr_one, if_pos (by rw [if_neg (by omega)]), List.drop_eq_getElem_cons h]
  show bs[a].toNat + 256 * le ((List.drop (a + 1) bs).take 0) = _
  rw [List.take_zero]
  rfl
theorem rdSpec_no {bs : List UInt8} {a : Nat} {n : Int} (h : accErr bs.length a n ≠ 0) : rdSpec bs a n = 0 := by
  rw [rdSpec, if_neg h]
/-- The bytes of an owned row, as a call that reads them wants them. -/
theorem own_bytes {w : World} {base : Nat} {g cap n : Nat} {bs : List UInt8} (h : w.ownsRow base 5 1 (.slice (some ⟨g, 0, none⟩) n cap) n (bs.map u8v)) : ∀ j u, (bs.map u8v)[j]? = some u → w.cell? ⟨g, 0 + j, none⟩ = some u := sees_cells h

set_option maxRecDepth 100000 in
set_option maxHeartbeats 1000000 in
theorem walk_ImageSingle (w : World) (v : Value) (hv : ∃ bs, ByteArg w v bs) (wide : Int) (_h1 : (Lit.int .i64 wide).wf = true) (a : Int) (h2 : (Lit.int .u32 a).wf = true) :
    Calls Try.prog 4 #[v, .int .i64 wide, .int .u32 a] w fun e w' => e = .returned (.bool true) ∧ Below w.heap.size w w' := by
  obtain ⟨bs, hv⟩ := hv
  obtain ⟨ha0, ha1⟩ := bounds_u32 h2
  obtain ⟨a, rfl⟩ := Int.eq_ofNat_of_zero_le ha0
  have HS := Lib.hid (sized_c v bs wide w hv)
  obtain ⟨va, cap, rfl, hm, _⟩ := hv
  unfold maxLen at hm
  by_cases hlen : 10000 < bs.length
  · go_enter Try.func4, Try.ntmps4
    go_wp2_with (go_at_call 14; refine (works_c _).mono ?_; rintro e w2 ⟨rfl, hn⟩; have HN2 := Lib.hid hn; clear hn)
    go_ret
    exact ⟨rfl, HN2.out.nb⟩
  · go_enter Try.func4, Try.ntmps4
    go_wp2_with (go_at_call 16; refine HS.out.mono ?_; rintro e w1 ⟨g, ws, rfl, hok, hrow, hn⟩; have HOk := Lib.hid hok; have HR1 := Lib.hid hrow; have HN1 := Lib.hid hn; clear hok hrow hn)
    refine (of_yes g 0 _ _ ws _ rfl (own_bytes HR1.out) HOk.out).mono ?_
    rintro e w2 ⟨b, g2, cap2, rfl, hi, hn⟩
    have HI := Lib.hid hi
    have HN2 := Lib.hid hn
    clear hi hn
    go_wp2_with fail
    refine (read_any HI.out a (by omega) 1).mono ?_
    rintro e w3 ⟨rfl, hn⟩
    have HN3 := Lib.hid hn
    clear hn
    have hr := okSize_range HOk.out
    obtain ⟨hr1, hr2⟩ := hr
    rw [accErr_one]
    by_cases hge : ws.length ≤ a
    · rw [rdSpec_no (by rw [accErr_one, if_pos hge]; decide), if_pos hge]
      go_wp2_with (first | (go_at_call 13; refine (num_c _ _).mono ?_; rintro e w' ⟨rfl, rfl⟩) | (go_at_call 14; refine (works_c _).mono ?_; rintro e w4 ⟨rfl, hn⟩; have HN4 := Lib.hid hn; clear hn))
      go_ret
      exact ⟨rfl, (((HN1.out.tr HN2.out).tr HN3.out).tr HN4.out).nb⟩
    · rw [rdSpec_one (show a < ws.length by omega), if_neg hge]
      have hb := ws[a].toNat_lt
      have hck : w3.cell? ⟨g, a, none⟩ = some (.int .u8 (ws[a].toNat : Int)) := by
        refine HN3.out.cell (HN2.out.cell ?_ id) id
        rw [row_cell HR1.out (by omega)]
        exact get_u8v _
      go_wp2_with (first | (go_at_call 13; refine (num_c _ _).mono ?_; rintro e w' ⟨rfl, rfl⟩) | (go_at_call 14; refine (works_c _).mono ?_; rintro e w4 ⟨rfl, hn⟩; have HN4 := Lib.hid hn; clear hn))
      go_ret
      exact ⟨rfl, (((HN1.out.tr HN2.out).tr HN3.out).tr HN4.out).nb⟩
end Go.Proofs.Ytglepciddhbmbaa
