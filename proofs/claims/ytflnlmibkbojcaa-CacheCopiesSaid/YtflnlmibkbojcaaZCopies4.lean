/-
  Part 4 of what the claim stands on: walks through the code, plain laws.
-/
import Derived.Test.YtflnlmibkbojcaaZCopies3
namespace Go.Proofs.Ytflnlmibkbojcaa
open Go.RowKit
def TakeR (w : World) (Fp : Nat → Prop) (b : Nat) (r : CD × List Msg × Int) (v : Value) (w' : World) : Prop :=
  ∃ A' cap', v = .tuple #[.slice A' r.2.1.length cap', .int .i64 r.2.2] ∧ Own msgE w' A' cap' r.2.1 ∧ (∀ g, inA A' g → w.heap.size ≤ g) ∧ ∃ Fp', CacheAt w' Fp' b r.1 ∧ Only Fp w w' ∧ ∀ g, Fp' g → Fp g ∨ w.heap.size ≤ g
theorem takeR_no {w w' : World} {Fp : Nat → Prop} {b : Nat} {r : CD × List Msg × Int} {d : CD} {v : Value} (e : Int) (hr : r = (d, [], e)) (hv : v = .tuple #[.slice none 0 0, .int .i64 e]) (h : CacheAt w' Fp b d) (hn : New w w') : TakeR w Fp b r v w' := by
  subst hr hv
  exact ⟨none, 0, rfl, Own.nil, fun g hg => absurd hg (apart_none g), Fp, h, hn.mono fun _ _ h => h.elim, fun g hg => .inl hg⟩
theorem takeR_ok {w w' : World} {Fp : Nat → Prop} {b : Nat} {r : CD × List Msg × Int} {d2 : CD} {l : List Msg} {v : Value} (hr : r = (d2, l, 0)) (h : ∃ A' cap', v = .tuple #[.slice A' l.length cap', .int .i64 0] ∧ Own msgE w' A' cap' l ∧ (∀ g, inA A' g → w.heap.size ≤ g) ∧ ∃ Fp', CacheAt w' Fp' b d2 ∧ Only Fp w w' ∧ ∀ g, Fp' g → Fp g ∨ w.heap.size ≤ g) : TakeR w Fp b r v w' := by
  subst hr
  exact h
theorem chk_kind {m : Msg} (h : chk m = 0) (hd : m.dst ≠ 4) : cacheK m.kind = true := by
  unfold chk goodMsg at h
  simp [hd] at h
  exact h.1
theorem take_6 {w : World} {Fp : Nat → Prop} {b : Nat} {id : Int} {n : Nat} {ways : Int} {L : List Ln} {ask : Option (Int × Bool)} {giv : Option Ln} (H : CacheAt w Fp b ⟨id, n, ways, L, ask, giv⟩) (m : Msg) (hck : chk m = 0) (hdn : m.dst = id) (hk : m.kind = 6) : Calls Try.prog 14 #[.pointer (some ⟨b, 0, none⟩), .agg (msgE.arr m)] w (Ret fun v w' => TakeR w Fp b (takeF ⟨id, n, ways, L, ask, giv⟩ m) v w') := by
  have h0 : ¬ (chk m ≠ 0 ∨ m.dst ≠ id) := fun h => h.elim (fun h => h hck) (fun h => h hdn)
  have e8 : ¬ (m.kind = 8 ∨ m.kind = 9 ∨ m.kind = 10) := by omega
  have e4 : ¬ (m.kind = 4 ∨ m.kind = 5) := by omega
  cases hw : writesB (stateOf L m.line) with
  | true =>
    refine (take_pan H m hck hdn (f := 52) Try.func52 nm52 rfl (by rw [hk]; rfl) fun w1 hn hC => drop_no hC m hw).mono ?_
    rintro e w' ⟨v, rfl, hv, hC, hn⟩
    exact ⟨v, rfl, takeR_no 220 (by unfold takeF; rw [if_neg h0, if_neg e8, if_neg e4, if_pos hk, if_pos hw]) hv hC hn⟩
  | false =>
    refine (take_ret H m hck hdn (f := 52) Try.func52 nm52 rfl (by rw [hk]; rfl) fun w1 hO hC => drop_ok hC m hw).mono ?_
    rintro e w' ⟨v, rfl, hv⟩
    exact ⟨v, rfl, takeR_ok (by unfold takeF; rw [if_neg h0, if_neg e8, if_neg e4, if_pos hk, if_neg (by rw [hw]; decide)]) hv⟩
theorem take_7 {w : World} {Fp : Nat → Prop} {b : Nat} {id : Int} {n : Nat} {ways : Int} {L : List Ln} {ask : Option (Int × Bool)} {giv : Option Ln} (H : CacheAt w Fp b ⟨id, n, ways, L, ask, giv⟩) (m : Msg) (hck : chk m = 0) (hdn : m.dst = id) (hk : m.kind = 7) : Calls Try.prog 14 #[.pointer (some ⟨b, 0, none⟩), .agg (msgE.arr m)] w (Ret fun v w' => TakeR w Fp b (takeF ⟨id, n, ways, L, ask, giv⟩ m) v w') := by
  have h0 : ¬ (chk m ≠ 0 ∨ m.dst ≠ id) := fun h => h.elim (fun h => h hck) (fun h => h hdn)
  have e8 : ¬ (m.kind = 8 ∨ m.kind = 9 ∨ m.kind = 10) := by omega
  have e4 : ¬ (m.kind = 4 ∨ m.kind = 5) := by omega
  have e6 : ¬ m.kind = 6 := by omega
  cases giv with
  | none =>
    refine (take_pan H m hck hdn (f := 53) Try.func53 nm53 rfl (by rw [hk]; rfl) fun w1 hn hC => acked_none hC m).mono ?_
    rintro e w' ⟨v, rfl, hv, hC, hn⟩
    exact ⟨v, rfl, takeR_no 220 (by unfold takeF; rw [if_neg h0, if_neg e8, if_neg e4, if_neg e6, if_neg (by simp [mine])]) hv hC hn⟩
  | some gx =>
    by_cases hg : gx.num = m.line
    · refine (take_ret H m hck hdn (f := 53) Try.func53 nm53 rfl (by rw [hk]; rfl) fun w1 hO hC => acked_ok hC m hg).mono ?_
      rintro e w' ⟨v, rfl, hv⟩
      exact ⟨v, rfl, takeR_ok (by unfold takeF; rw [if_neg h0, if_neg e8, if_neg e4, if_neg e6, if_pos (by simp [mine, hg])]) hv⟩
    · refine (take_pan H m hck hdn (f := 53) Try.func53 nm53 rfl (by rw [hk]; rfl) fun w1 hn hC => acked_ne hC m hg).mono ?_
      rintro e w' ⟨v, rfl, hv, hC, hn⟩
      exact ⟨v, rfl, takeR_no 220 (by unfold takeF; rw [if_neg h0, if_neg e8, if_neg e4, if_neg e6, if_neg (by simp [mine, hg])]) hv hC hn⟩
theorem take_4 {w : World} {Fp : Nat → Prop} {b : Nat} {id : Int} {n : Nat} {ways : Int} {L : List Ln} {ask : Option (Int × Bool)} {giv : Option Ln} (H : CacheAt w Fp b ⟨id, n, ways, L, ask, giv⟩) (m : Msg) (hck : chk m = 0) (hdn : m.dst = id) (hk : m.kind = 4) : Calls Try.prog 14 #[.pointer (some ⟨b, 0, none⟩), .agg (msgE.arr m)] w (Ret fun v w' => TakeR w Fp b (takeF ⟨id, n, ways, L, ask, giv⟩ m) v w') := by
  have h0 : ¬ (chk m ≠ 0 ∨ m.dst ≠ id) := fun h => h.elim (fun h => h hck) (fun h => h hdn)
  have e8 : ¬ (m.kind = 8 ∨ m.kind = 9 ∨ m.kind = 10) := by omega
  have e4 : m.kind = 4 ∨ m.kind = 5 := by omega
  cases giv with
  | none =>
    cases hw : writesB (stateOf L m.line) with
    | true =>
      refine (take_ret H m hck hdn (f := 51) Try.func51 nm51 rfl (by rw [hk]; rfl) fun w1 hO hC => back_sn hC m hw hk).mono ?_
      rintro e w' ⟨v, rfl, hv⟩
      exact ⟨v, rfl, takeR_ok (by unfold takeF; rw [if_neg h0, if_neg e8, if_pos e4]; show takeF.backF _ m = _; unfold takeF.backF; rw [if_pos hw, if_pos hk]) hv⟩
    | false =>
      refine (take_pan H m hck hdn (f := 51) Try.func51 nm51 rfl (by rw [hk]; rfl) fun w1 hn hC => back_non hC m hw).mono ?_
      rintro e w' ⟨v, rfl, hv, hC, hn⟩
      exact ⟨v, rfl, takeR_no 220 (by unfold takeF; rw [if_neg h0, if_neg e8, if_pos e4]; show takeF.backF _ m = _; unfold takeF.backF; rw [if_neg (by rw [hw]; decide)]) hv hC hn⟩
  | some gx =>
    by_cases hg : gx.num = m.line
    · refine (take_ret H m hck hdn (f := 51) Try.func51 nm51 rfl (by rw [hk]; rfl) fun w1 hO hC => (back_g hC m hg).mono (by rintro e w' ⟨v, rfl, A, c, hv, hO, hA, hn⟩; exact ⟨v, rfl, A, c, hv, hO, hA, Fp, hC.new hn, hn.mono fun _ _ h => h.elim, fun g hg => .inl hg⟩)).mono ?_
      rintro e w' ⟨v, rfl, hv⟩
      exact ⟨v, rfl, takeR_ok (by unfold takeF; rw [if_neg h0, if_neg e8, if_pos e4]; show (if gx.num = m.line then _ else _) = _; rw [if_pos hg]) hv⟩
    · cases hw : writesB (stateOf L m.line) with
      | true =>
        refine (take_ret H m hck hdn (f := 51) Try.func51 nm51 rfl (by rw [hk]; rfl) fun w1 hO hC => back_sg hC m hg hw hk).mono ?_
        rintro e w' ⟨v, rfl, hv⟩
        exact ⟨v, rfl, takeR_ok (by unfold takeF; rw [if_neg h0, if_neg e8, if_pos e4]; show (if gx.num = m.line then _ else _) = _; rw [if_neg hg]; show takeF.backF _ m = _; unfold takeF.backF; rw [if_pos hw, if_pos hk]) hv⟩
      | false =>
        refine (take_pan H m hck hdn (f := 51) Try.func51 nm51 rfl (by rw [hk]; rfl) fun w1 hn hC => back_nog hC m hg hw).mono ?_
        rintro e w' ⟨v, rfl, hv, hC, hn⟩
        exact ⟨v, rfl, takeR_no 220 (by unfold takeF; rw [if_neg h0, if_neg e8, if_pos e4]; show (if gx.num = m.line then _ else _) = _; rw [if_neg hg]; show takeF.backF _ m = _; unfold takeF.backF; rw [if_neg (by rw [hw]; decide)]) hv hC hn⟩
theorem take_5 {w : World} {Fp : Nat → Prop} {b : Nat} {id : Int} {n : Nat} {ways : Int} {L : List Ln} {ask : Option (Int × Bool)} {giv : Option Ln} (H : CacheAt w Fp b ⟨id, n, ways, L, ask, giv⟩) (m : Msg) (hck : chk m = 0) (hdn : m.dst = id) (hk : m.kind = 5) : Calls Try.prog 14 #[.pointer (some ⟨b, 0, none⟩), .agg (msgE.arr m)] w (Ret fun v w' => TakeR w Fp b (takeF ⟨id, n, ways, L, ask, giv⟩ m) v w') := by
  have h0 : ¬ (chk m ≠ 0 ∨ m.dst ≠ id) := fun h => h.elim (fun h => h hck) (fun h => h hdn)
  have e8 : ¬ (m.kind = 8 ∨ m.kind = 9 ∨ m.kind = 10) := by omega
  have e4 : m.kind = 4 ∨ m.kind = 5 := by omega
  have h44 : ¬ m.kind = 4 := by omega
  cases giv with
  | none =>
    cases hw : writesB (stateOf L m.line) with
    | true =>
      refine (take_ret H m hck hdn (f := 51) Try.func51 nm51 rfl (by rw [hk]; rfl) fun w1 hO hC => back_dn hC m hw h44).mono ?_
      rintro e w' ⟨v, rfl, hv⟩
      exact ⟨v, rfl, takeR_ok (by unfold takeF; rw [if_neg h0, if_neg e8, if_pos e4]; show takeF.backF _ m = _; unfold takeF.backF; rw [if_pos hw, if_neg h44]) hv⟩
    | false =>
      refine (take_pan H m hck hdn (f := 51) Try.func51 nm51 rfl (by rw [hk]; rfl) fun w1 hn hC => back_non hC m hw).mono ?_
      rintro e w' ⟨v, rfl, hv, hC, hn⟩
      exact ⟨v, rfl, takeR_no 220 (by unfold takeF; rw [if_neg h0, if_neg e8, if_pos e4]; show takeF.backF _ m = _; unfold takeF.backF; rw [if_neg (by rw [hw]; decide)]) hv hC hn⟩
  | some gx =>
    by_cases hg : gx.num = m.line
    · refine (take_ret H m hck hdn (f := 51) Try.func51 nm51 rfl (by rw [hk]; rfl) fun w1 hO hC => (back_g hC m hg).mono (by rintro e w' ⟨v, rfl, A, c, hv, hO, hA, hn⟩; exact ⟨v, rfl, A, c, hv, hO, hA, Fp, hC.new hn, hn.mono fun _ _ h => h.elim, fun g hg => .inl hg⟩)).mono ?_
      rintro e w' ⟨v, rfl, hv⟩
      exact ⟨v, rfl, takeR_ok (by unfold takeF; rw [if_neg h0, if_neg e8, if_pos e4]; show (if gx.num = m.line then _ else _) = _; rw [if_pos hg]) hv⟩
    · cases hw : writesB (stateOf L m.line) with
      | true =>
        refine (take_ret H m hck hdn (f := 51) Try.func51 nm51 rfl (by rw [hk]; rfl) fun w1 hO hC => back_dg hC m hg hw h44).mono ?_
        rintro e w' ⟨v, rfl, hv⟩
        exact ⟨v, rfl, takeR_ok (by unfold takeF; rw [if_neg h0, if_neg e8, if_pos e4]; show (if gx.num = m.line then _ else _) = _; rw [if_neg hg]; show takeF.backF _ m = _; unfold takeF.backF; rw [if_pos hw, if_neg h44]) hv⟩
      | false =>
        refine (take_pan H m hck hdn (f := 51) Try.func51 nm51 rfl (by rw [hk]; rfl) fun w1 hn hC => back_nog hC m hg hw).mono ?_
        rintro e w' ⟨v, rfl, hv, hC, hn⟩
        exact ⟨v, rfl, takeR_no 220 (by unfold takeF; rw [if_neg h0, if_neg e8, if_pos e4]; show (if gx.num = m.line then _ else _) = _; rw [if_neg hg]; show takeF.backF _ m = _; unfold takeF.backF; rw [if_neg (by rw [hw]; decide)]) hv hC hn⟩
theorem take_8 {w : World} {Fp : Nat → Prop} {b : Nat} {id : Int} {n : Nat} {ways : Int} {L : List Ln} {ask : Option (Int × Bool)} {giv : Option Ln} (H : CacheAt w Fp b ⟨id, n, ways, L, ask, giv⟩) (m : Msg) (hck : chk m = 0) (hdn : m.dst = id) (hk : m.kind = 8) (hroom : dataOk ⟨id, n, ways, L, ask, giv⟩ m = true → putE n ways L (dataLn m) = 0) : Calls Try.prog 14 #[.pointer (some ⟨b, 0, none⟩), .agg (msgE.arr m)] w (Ret fun v w' => TakeR w Fp b (takeF ⟨id, n, ways, L, ask, giv⟩ m) v w') := by
  have h0 : ¬ (chk m ≠ 0 ∨ m.dst ≠ id) := fun h => h.elim (fun h => h hck) (fun h => h hdn)
  have e8 : m.kind = 8 ∨ m.kind = 9 ∨ m.kind = 10 := by omega
  have hl : dataLn m = mkL m.line 1 m.bs m.hn := by unfold dataLn; rw [if_pos hk]
  rcases ask with _ | ⟨al, aw⟩
  · refine (take_pan H m hck hdn (f := 50) Try.func50 nm50 rfl (by rw [hk]; rfl) fun w1 hn hC => data_none hC m).mono ?_
    rintro e w' ⟨v, rfl, hv, hC, hn⟩
    exact ⟨v, rfl, takeR_no 220 (by unfold takeF; rw [if_neg h0, if_pos e8, if_neg (fun h => by have h9 := h.1; simp [dataOk] at h9)]) hv hC hn⟩
  · by_cases ha : al = m.line
    · cases hw : (aw == decide (m.kind = 10)) with
      | false =>
        refine (take_pan H m hck hdn (f := 50) Try.func50 nm50 rfl (by rw [hk]; rfl) fun w1 hn hC => data_w hC m ha hw).mono ?_
        rintro e w' ⟨v, rfl, hv, hC, hn⟩
        exact ⟨v, rfl, takeR_no 220 (by unfold takeF; rw [if_neg h0, if_pos e8, if_neg (fun h => by have h9 : (decide (al = m.line) && (aw == decide (m.kind = 10))) = true := h.1; rw [hw] at h9; simp at h9)]) hv hC hn⟩
      | true =>
        have hdk : dataOk ⟨id, n, ways, L, some (al, aw), giv⟩ m = true := by show (decide (al = m.line) && (aw == decide (m.kind = 10))) = true; rw [decide_eq_true ha, hw]; rfl
        have hp := hroom hdk
        have hp2 := hp
        rw [hl] at hp2
        have hw8 : (aw == false) = true := by have h9 := hw; rw [hk] at h9; simpa using h9
        refine (take_ret H m hck hdn (f := 50) Try.func50 nm50 rfl (by rw [hk]; rfl) fun w1 hO hC => data_s hC m ha hw8 hk hp2).mono ?_
        rintro e w' ⟨v, rfl, hv⟩
        exact ⟨v, rfl, takeR_ok (by unfold takeF; rw [if_neg h0, if_pos e8, if_pos ⟨hdk, hp⟩, hl]) hv⟩
    · refine (take_pan H m hck hdn (f := 50) Try.func50 nm50 rfl (by rw [hk]; rfl) fun w1 hn hC => data_ne hC m ha).mono ?_
      rintro e w' ⟨v, rfl, hv, hC, hn⟩
      exact ⟨v, rfl, takeR_no 220 (by unfold takeF; rw [if_neg h0, if_pos e8, if_neg (fun h => by have h9 := h.1; simp [dataOk, ha] at h9)]) hv hC hn⟩
theorem take_9 {w : World} {Fp : Nat → Prop} {b : Nat} {id : Int} {n : Nat} {ways : Int} {L : List Ln} {ask : Option (Int × Bool)} {giv : Option Ln} (H : CacheAt w Fp b ⟨id, n, ways, L, ask, giv⟩) (m : Msg) (hck : chk m = 0) (hdn : m.dst = id) (hk : m.kind = 9) (hroom : dataOk ⟨id, n, ways, L, ask, giv⟩ m = true → putE n ways L (dataLn m) = 0) : Calls Try.prog 14 #[.pointer (some ⟨b, 0, none⟩), .agg (msgE.arr m)] w (Ret fun v w' => TakeR w Fp b (takeF ⟨id, n, ways, L, ask, giv⟩ m) v w') := by
  have h0 : ¬ (chk m ≠ 0 ∨ m.dst ≠ id) := fun h => h.elim (fun h => h hck) (fun h => h hdn)
  have e8 : m.kind = 8 ∨ m.kind = 9 ∨ m.kind = 10 := by omega
  have h88 : ¬ m.kind = 8 := by omega
  have hl : dataLn m = mkL m.line 2 m.bs m.hn := by unfold dataLn; rw [if_neg h88]
  rcases ask with _ | ⟨al, aw⟩
  · refine (take_pan H m hck hdn (f := 50) Try.func50 nm50 rfl (by rw [hk]; rfl) fun w1 hn hC => data_none hC m).mono ?_
    rintro e w' ⟨v, rfl, hv, hC, hn⟩
    exact ⟨v, rfl, takeR_no 220 (by unfold takeF; rw [if_neg h0, if_pos e8, if_neg (fun h => by have h9 := h.1; simp [dataOk] at h9)]) hv hC hn⟩
  · by_cases ha : al = m.line
    · cases hw : (aw == decide (m.kind = 10)) with
      | false =>
        refine (take_pan H m hck hdn (f := 50) Try.func50 nm50 rfl (by rw [hk]; rfl) fun w1 hn hC => data_w hC m ha hw).mono ?_
        rintro e w' ⟨v, rfl, hv, hC, hn⟩
        exact ⟨v, rfl, takeR_no 220 (by unfold takeF; rw [if_neg h0, if_pos e8, if_neg (fun h => by have h9 : (decide (al = m.line) && (aw == decide (m.kind = 10))) = true := h.1; rw [hw] at h9; simp at h9)]) hv hC hn⟩
      | true =>
        have hdk : dataOk ⟨id, n, ways, L, some (al, aw), giv⟩ m = true := by show (decide (al = m.line) && (aw == decide (m.kind = 10))) = true; rw [decide_eq_true ha, hw]; rfl
        have hp := hroom hdk
        have hp2 := hp
        rw [hl] at hp2
        refine (take_ret H m hck hdn (f := 50) Try.func50 nm50 rfl (by rw [hk]; rfl) fun w1 hO hC => data_e hC m ha hw h88 hp2).mono ?_
        rintro e w' ⟨v, rfl, hv⟩
        exact ⟨v, rfl, takeR_ok (by unfold takeF; rw [if_neg h0, if_pos e8, if_pos ⟨hdk, hp⟩, hl]) hv⟩
    · refine (take_pan H m hck hdn (f := 50) Try.func50 nm50 rfl (by rw [hk]; rfl) fun w1 hn hC => data_ne hC m ha).mono ?_
      rintro e w' ⟨v, rfl, hv, hC, hn⟩
      exact ⟨v, rfl, takeR_no 220 (by unfold takeF; rw [if_neg h0, if_pos e8, if_neg (fun h => by have h9 := h.1; simp [dataOk, ha] at h9)]) hv hC hn⟩
theorem take_10 {w : World} {Fp : Nat → Prop} {b : Nat} {id : Int} {n : Nat} {ways : Int} {L : List Ln} {ask : Option (Int × Bool)} {giv : Option Ln} (H : CacheAt w Fp b ⟨id, n, ways, L, ask, giv⟩) (m : Msg) (hck : chk m = 0) (hdn : m.dst = id) (hk : m.kind = 10) (hroom : dataOk ⟨id, n, ways, L, ask, giv⟩ m = true → putE n ways L (dataLn m) = 0) : Calls Try.prog 14 #[.pointer (some ⟨b, 0, none⟩), .agg (msgE.arr m)] w (Ret fun v w' => TakeR w Fp b (takeF ⟨id, n, ways, L, ask, giv⟩ m) v w') := by
  have h0 : ¬ (chk m ≠ 0 ∨ m.dst ≠ id) := fun h => h.elim (fun h => h hck) (fun h => h hdn)
  have e8 : m.kind = 8 ∨ m.kind = 9 ∨ m.kind = 10 := by omega
  have h88 : ¬ m.kind = 8 := by omega
  have hl : dataLn m = mkL m.line 2 m.bs m.hn := by unfold dataLn; rw [if_neg h88]
  rcases ask with _ | ⟨al, aw⟩
  · refine (take_pan H m hck hdn (f := 50) Try.func50 nm50 rfl (by rw [hk]; rfl) fun w1 hn hC => data_none hC m).mono ?_
    rintro e w' ⟨v, rfl, hv, hC, hn⟩
    exact ⟨v, rfl, takeR_no 220 (by unfold takeF; rw [if_neg h0, if_pos e8, if_neg (fun h => by have h9 := h.1; simp [dataOk] at h9)]) hv hC hn⟩
  · by_cases ha : al = m.line
    · cases hw : (aw == decide (m.kind = 10)) with
      | false =>
        refine (take_pan H m hck hdn (f := 50) Try.func50 nm50 rfl (by rw [hk]; rfl) fun w1 hn hC => data_w hC m ha hw).mono ?_
        rintro e w' ⟨v, rfl, hv, hC, hn⟩
        exact ⟨v, rfl, takeR_no 220 (by unfold takeF; rw [if_neg h0, if_pos e8, if_neg (fun h => by have h9 : (decide (al = m.line) && (aw == decide (m.kind = 10))) = true := h.1; rw [hw] at h9; simp at h9)]) hv hC hn⟩
      | true =>
        have hdk : dataOk ⟨id, n, ways, L, some (al, aw), giv⟩ m = true := by show (decide (al = m.line) && (aw == decide (m.kind = 10))) = true; rw [decide_eq_true ha, hw]; rfl
        have hp := hroom hdk
        have hp2 := hp
        rw [hl] at hp2
        refine (take_ret H m hck hdn (f := 50) Try.func50 nm50 rfl (by rw [hk]; rfl) fun w1 hO hC => data_e hC m ha hw h88 hp2).mono ?_
        rintro e w' ⟨v, rfl, hv⟩
        exact ⟨v, rfl, takeR_ok (by unfold takeF; rw [if_neg h0, if_pos e8, if_pos ⟨hdk, hp⟩, hl]) hv⟩
    · refine (take_pan H m hck hdn (f := 50) Try.func50 nm50 rfl (by rw [hk]; rfl) fun w1 hn hC => data_ne hC m ha).mono ?_
      rintro e w' ⟨v, rfl, hv, hC, hn⟩
      exact ⟨v, rfl, takeR_no 220 (by unfold takeF; rw [if_neg h0, if_pos e8, if_neg (fun h => by have h9 := h.1; simp [dataOk, ha] at h9)]) hv hC hn⟩
theorem take_c {w : World} {Fp : Nat → Prop} {b : Nat} {id : Int} {n : Nat} {ways : Int} {L : List Ln} {ask : Option (Int × Bool)} {giv : Option Ln} (H : CacheAt w Fp b ⟨id, n, ways, L, ask, giv⟩) (m : Msg) (hid : 0 ≤ id ∧ id < 4) (hroom : dataOk ⟨id, n, ways, L, ask, giv⟩ m = true → putE n ways L (dataLn m) = 0) : Calls Try.prog 14 #[.pointer (some ⟨b, 0, none⟩), .agg (msgE.arr m)] w (Ret fun v w' => TakeR w Fp b (takeF ⟨id, n, ways, L, ask, giv⟩ m) v w') := by
  by_cases h1 : chk m ≠ 0
  · refine (take_a1 H m h1).mono ?_
    rintro e w' ⟨v, rfl, hv, hC, hn⟩
    exact ⟨v, rfl, takeR_no 2 (by unfold takeF; rw [if_pos (.inl h1)]) hv hC hn⟩
  by_cases h2 : m.dst ≠ id
  · refine (take_a2 H m h1 h2).mono ?_
    rintro e w' ⟨v, rfl, hv, hC, hn⟩
    exact ⟨v, rfl, takeR_no 2 (by unfold takeF; rw [if_pos (.inr h2)]) hv hC hn⟩
  have hck : chk m = 0 := Decidable.not_not.1 h1
  have hdn : m.dst = id := Decidable.not_not.1 h2
  have hc := chk_kind hck (by rw [hdn]; omega)
  unfold cacheK at hc
  simp only [Bool.or_eq_true, decide_eq_true_eq] at hc
  rcases hc with (((((hk | hk) | hk) | hk) | hk) | hk) | hk
  · exact take_4 H m hck hdn hk
  · exact take_5 H m hck hdn hk
  · exact take_6 H m hck hdn hk
  · exact take_7 H m hck hdn hk
  · exact take_8 H m hck hdn hk hroom
  · exact take_9 H m hck hdn hk hroom
  · exact take_10 H m hck hdn hk hroom
end Go.Proofs.Ytflnlmibkbojcaa
namespace Go.Proofs.Ytflnlmibkbojcaa
open Go.RowKit
def EvictR (w : World) (Fp : Nat → Prop) (b : Nat) (r : CD × List Msg) (v : Value) (w' : World) : Prop :=
  ∃ A' cap', v = .slice A' r.2.length cap' ∧ Own msgE w' A' cap' r.2 ∧ (∀ g, inA A' g → w.heap.size ≤ g) ∧ ∃ Fp', CacheAt w' Fp' b r.1 ∧ Only Fp w w' ∧ ∀ g, Fp' g → Fp g ∨ w.heap.size ≤ g
theorem evictR_no {w w' : World} {Fp : Nat → Prop} {b : Nat} {r : CD × List Msg} {d : CD} {v : Value} (hr : r = (d, [])) (hv : v = .slice none 0 0) (h : CacheAt w Fp b d) (hn : New w w') : EvictR w Fp b r v w' := by
  subst hr hv
  exact ⟨none, 0, rfl, Own.nil, fun g hg => absurd hg (apart_none g), Fp, h.new hn, hn.mono fun _ _ h => h.elim, fun g hg => .inl hg⟩
theorem evictR_ok {w w' : World} {Fp : Nat → Prop} {b : Nat} {r : CD × List Msg} {d2 : CD} {l : List Msg} {v : Value} (hr : r = (d2, l)) (h : ∃ A' cap', v = .slice A' l.length cap' ∧ Own msgE w' A' cap' l ∧ (∀ g, inA A' g → w.heap.size ≤ g) ∧ ∃ Fp', CacheAt w' Fp' b d2 ∧ Only Fp w w' ∧ ∀ g, Fp' g → Fp g ∨ w.heap.size ≤ g) : EvictR w Fp b r v w' := by
  subst hr
  exact h
theorem evict_c {w : World} {Fp : Nat → Prop} {b : Nat} {id : Int} {n : Nat} {ways : Int} {L : List Ln} {ask : Option (Int × Bool)} {giv : Option Ln} (H : CacheAt w Fp b ⟨id, n, ways, L, ask, giv⟩) (pick : Int) : Calls Try.prog 25 #[.pointer (some ⟨b, 0, none⟩), .int .i64 pick] w (Ret fun v w' => EvictR w Fp b (evictF ⟨id, n, ways, L, ask, giv⟩ pick) v w') := by
  by_cases h0 : L.length = 0
  · have hL : L = [] := List.length_eq_zero_iff.1 h0
    refine (evict_e H pick h0).mono ?_
    rintro e w' ⟨v, rfl, hv, hn⟩
    exact ⟨v, rfl, evictR_no (by unfold evictF; exact if_pos hL) hv H hn⟩
  have hne : ¬ L = [] := fun h => h0 (by rw [h]; rfl)
  have hal := allL_len H.bd.1 L
  have hr : evictF ⟨id, n, ways, L, ask, giv⟩ pick = ((outF ⟨id, n, ways, L, ask, giv⟩ ((allL n L).getD (pickAt pick (allL n L).length) ln0)).1, (outF ⟨id, n, ways, L, ask, giv⟩ ((allL n L).getD (pickAt pick (allL n L).length) ln0)).2.1) := by
    unfold evictF
    rw [if_neg hne]
    show ((outF ⟨id, n, ways, L, ask, giv⟩ ((allL n L).getD (pickAt pick L.length) ln0)).1, (outF ⟨id, n, ways, L, ask, giv⟩ ((allL n L).getD (pickAt pick L.length) ln0)).2.1) = _
    rw [show L.length = (allL n L).length from hal.symm]
  by_cases hx : ((allL n L).getD (pickAt pick (allL n L).length) ln0).state = 1
  · refine (evict_s H pick h0 hx).mono ?_
    rintro e w' ⟨v, rfl, hv⟩
    exact ⟨v, rfl, evictR_ok (by rw [hr]; unfold outF; rw [if_pos hx]) hv⟩
  cases giv with
  | none =>
    refine (evict_p H pick h0 hx).mono ?_
    rintro e w' ⟨v, rfl, hv⟩
    exact ⟨v, rfl, evictR_ok (by rw [hr]; unfold outF; rw [if_neg hx]) hv⟩
  | some gx =>
    refine (evict_b H pick h0 hx).mono ?_
    rintro e w' ⟨v, rfl, hv, hn⟩
    exact ⟨v, rfl, evictR_no (by rw [hr]; unfold outF; rw [if_neg hx]) hv H hn⟩
end Go.Proofs.Ytflnlmibkbojcaa
namespace Go.Proofs.Ytflnlmibkbojcaa
open Go.RowKit
theorem ask_rn {w : World} {Fp : Nat → Prop} {b : Nat} {id : Int} {n : Nat} {ways : Int} {L : List Ln} (H : CacheAt w Fp b ⟨id, n, ways, L, none, none⟩) (line : Int) (hln : 0 ≤ line ∧ line < 4294967296) (pick : Int) : Calls Try.prog 13 #[.pointer (some ⟨b, 0, none⟩), .int .u32 line, .bool false, .int .i64 pick] w (Ret fun v w' => TakeR w Fp b (askF ⟨id, n, ways, L, none, none⟩ line hln false pick) v w') := by
  have c1 : ¬ ((none : Option (Int × Bool)).isSome = true ∨ mine none line = true) := by simp [mine]
  by_cases hs : stateOf L line ≠ 0
  · refine (ask_trn H line hln pick hs).mono ?_
    rintro e w' ⟨v, rfl, hv9, hn⟩
    exact ⟨v, rfl, takeR_no 231 (by unfold askF; rw [if_neg c1, if_pos ⟨hs, .inl rfl⟩]) hv9 (H.new hn) hn⟩
  · have c2 : ¬ (stateOf L line ≠ 0 ∧ (false = false ∨ writesB (stateOf L line) = true)) := fun h => hs h.1
    cases hv : vicL n ways L line pick with
    | none =>
      refine (ask_nr0n H line hln pick hs hv).mono ?_
      rintro e w' ⟨v, rfl, hv9⟩
      exact ⟨v, rfl, takeR_ok (by unfold askF; rw [if_neg c1, if_neg c2]; simp only [hv]) hv9⟩
    | some vx =>
      by_cases hx : vx.state = 1
      · refine (ask_sr0n H line hln pick hs vx hv hx).mono ?_
        rintro e w' ⟨v, rfl, hv9⟩
        exact ⟨v, rfl, takeR_ok (by unfold askF; rw [if_neg c1, if_neg c2]; simp only [hv]; simp [outF, hx]) hv9⟩
      · refine (ask_pr0n H line hln pick hs vx hv hx).mono ?_
        rintro e w' ⟨v, rfl, hv9⟩
        exact ⟨v, rfl, takeR_ok (by unfold askF; rw [if_neg c1, if_neg c2]; simp only [hv]; simp [outF, hx]) hv9⟩
theorem ask_wn {w : World} {Fp : Nat → Prop} {b : Nat} {id : Int} {n : Nat} {ways : Int} {L : List Ln} (H : CacheAt w Fp b ⟨id, n, ways, L, none, none⟩) (line : Int) (hln : 0 ≤ line ∧ line < 4294967296) (pick : Int) : Calls Try.prog 13 #[.pointer (some ⟨b, 0, none⟩), .int .u32 line, .bool true, .int .i64 pick] w (Ret fun v w' => TakeR w Fp b (askF ⟨id, n, ways, L, none, none⟩ line hln true pick) v w') := by
  have c1 : ¬ ((none : Option (Int × Bool)).isSome = true ∨ mine none line = true) := by simp [mine]
  by_cases hs : stateOf L line ≠ 0
  · cases hw : writesB (stateOf L line) with
    | true =>
      refine (ask_twn H line hln pick hs hw).mono ?_
      rintro e w' ⟨v, rfl, hv9, hn⟩
      exact ⟨v, rfl, takeR_no 231 (by unfold askF; rw [if_neg c1, if_pos ⟨hs, .inr hw⟩]) hv9 (H.new hn) hn⟩
    | false =>
      have c2 : ¬ (stateOf L line ≠ 0 ∧ (true = false ∨ writesB (stateOf L line) = true)) := by simp [hw]
      cases hv : vicL n ways L line pick with
      | none =>
        refine (ask_nw1n H line hln pick hs hw hv).mono ?_
        rintro e w' ⟨v, rfl, hv9⟩
        exact ⟨v, rfl, takeR_ok (by unfold askF; rw [if_neg c1, if_neg c2]; simp only [hv]) hv9⟩
      | some vx =>
        by_cases hx : vx.state = 1
        · refine (ask_sw1n H line hln pick hs hw vx hv hx).mono ?_
          rintro e w' ⟨v, rfl, hv9⟩
          exact ⟨v, rfl, takeR_ok (by unfold askF; rw [if_neg c1, if_neg c2]; simp only [hv]; simp [outF, hx]) hv9⟩
        · refine (ask_pw1n H line hln pick hs hw vx hv hx).mono ?_
          rintro e w' ⟨v, rfl, hv9⟩
          exact ⟨v, rfl, takeR_ok (by unfold askF; rw [if_neg c1, if_neg c2]; simp only [hv]; simp [outF, hx]) hv9⟩
  · have c2 : ¬ (stateOf L line ≠ 0 ∧ (true = false ∨ writesB (stateOf L line) = true)) := fun h => hs h.1
    cases hv : vicL n ways L line pick with
    | none =>
      refine (ask_nw0n H line hln pick hs hv).mono ?_
      rintro e w' ⟨v, rfl, hv9⟩
      exact ⟨v, rfl, takeR_ok (by unfold askF; rw [if_neg c1, if_neg c2]; simp only [hv]) hv9⟩
    | some vx =>
      by_cases hx : vx.state = 1
      · refine (ask_sw0n H line hln pick hs vx hv hx).mono ?_
        rintro e w' ⟨v, rfl, hv9⟩
        exact ⟨v, rfl, takeR_ok (by unfold askF; rw [if_neg c1, if_neg c2]; simp only [hv]; simp [outF, hx]) hv9⟩
      · refine (ask_pw0n H line hln pick hs vx hv hx).mono ?_
        rintro e w' ⟨v, rfl, hv9⟩
        exact ⟨v, rfl, takeR_ok (by unfold askF; rw [if_neg c1, if_neg c2]; simp only [hv]; simp [outF, hx]) hv9⟩
theorem ask_rs {w : World} {Fp : Nat → Prop} {b : Nat} {id : Int} {n : Nat} {ways : Int} {L : List Ln} {gx : Ln} (H : CacheAt w Fp b ⟨id, n, ways, L, none, (some gx)⟩) (line : Int) (hln : 0 ≤ line ∧ line < 4294967296) (pick : Int) (hg : ¬ gx.num = line) : Calls Try.prog 13 #[.pointer (some ⟨b, 0, none⟩), .int .u32 line, .bool false, .int .i64 pick] w (Ret fun v w' => TakeR w Fp b (askF ⟨id, n, ways, L, none, (some gx)⟩ line hln false pick) v w') := by
  have c1 : ¬ ((none : Option (Int × Bool)).isSome = true ∨ mine (some gx) line = true) := by simp [mine, hg]
  by_cases hs : stateOf L line ≠ 0
  · refine (ask_trs H line hln pick hg hs).mono ?_
    rintro e w' ⟨v, rfl, hv9, hn⟩
    exact ⟨v, rfl, takeR_no 231 (by unfold askF; rw [if_neg c1, if_pos ⟨hs, .inl rfl⟩]) hv9 (H.new hn) hn⟩
  · have c2 : ¬ (stateOf L line ≠ 0 ∧ (false = false ∨ writesB (stateOf L line) = true)) := fun h => hs h.1
    cases hv : vicL n ways L line pick with
    | none =>
      refine (ask_nr0s H line hln pick hg hs hv).mono ?_
      rintro e w' ⟨v, rfl, hv9⟩
      exact ⟨v, rfl, takeR_ok (by unfold askF; rw [if_neg c1, if_neg c2]; simp only [hv]) hv9⟩
    | some vx =>
      by_cases hx : vx.state = 1
      · refine (ask_sr0s H line hln pick hg hs vx hv hx).mono ?_
        rintro e w' ⟨v, rfl, hv9⟩
        exact ⟨v, rfl, takeR_ok (by unfold askF; rw [if_neg c1, if_neg c2]; simp only [hv]; simp [outF, hx]) hv9⟩
      · refine (ask_br0s H line hln pick hg hs vx hv hx).mono ?_
        rintro e w' ⟨v, rfl, hv9, hn⟩
        exact ⟨v, rfl, takeR_no 230 (by unfold askF; rw [if_neg c1, if_neg c2]; simp only [hv]; simp [outF, hx]) hv9 (H.new hn) hn⟩
theorem ask_ws {w : World} {Fp : Nat → Prop} {b : Nat} {id : Int} {n : Nat} {ways : Int} {L : List Ln} {gx : Ln} (H : CacheAt w Fp b ⟨id, n, ways, L, none, (some gx)⟩) (line : Int) (hln : 0 ≤ line ∧ line < 4294967296) (pick : Int) (hg : ¬ gx.num = line) : Calls Try.prog 13 #[.pointer (some ⟨b, 0, none⟩), .int .u32 line, .bool true, .int .i64 pick] w (Ret fun v w' => TakeR w Fp b (askF ⟨id, n, ways, L, none, (some gx)⟩ line hln true pick) v w') := by
  have c1 : ¬ ((none : Option (Int × Bool)).isSome = true ∨ mine (some gx) line = true) := by simp [mine, hg]
  by_cases hs : stateOf L line ≠ 0
  · cases hw : writesB (stateOf L line) with
    | true =>
      refine (ask_tws H line hln pick hg hs hw).mono ?_
      rintro e w' ⟨v, rfl, hv9, hn⟩
      exact ⟨v, rfl, takeR_no 231 (by unfold askF; rw [if_neg c1, if_pos ⟨hs, .inr hw⟩]) hv9 (H.new hn) hn⟩
    | false =>
      have c2 : ¬ (stateOf L line ≠ 0 ∧ (true = false ∨ writesB (stateOf L line) = true)) := by simp [hw]
      cases hv : vicL n ways L line pick with
      | none =>
        refine (ask_nw1s H line hln pick hg hs hw hv).mono ?_
        rintro e w' ⟨v, rfl, hv9⟩
        exact ⟨v, rfl, takeR_ok (by unfold askF; rw [if_neg c1, if_neg c2]; simp only [hv]) hv9⟩
      | some vx =>
        by_cases hx : vx.state = 1
        · refine (ask_sw1s H line hln pick hg hs hw vx hv hx).mono ?_
          rintro e w' ⟨v, rfl, hv9⟩
          exact ⟨v, rfl, takeR_ok (by unfold askF; rw [if_neg c1, if_neg c2]; simp only [hv]; simp [outF, hx]) hv9⟩
        · refine (ask_bw1s H line hln pick hg hs hw vx hv hx).mono ?_
          rintro e w' ⟨v, rfl, hv9, hn⟩
          exact ⟨v, rfl, takeR_no 230 (by unfold askF; rw [if_neg c1, if_neg c2]; simp only [hv]; simp [outF, hx]) hv9 (H.new hn) hn⟩
  · have c2 : ¬ (stateOf L line ≠ 0 ∧ (true = false ∨ writesB (stateOf L line) = true)) := fun h => hs h.1
    cases hv : vicL n ways L line pick with
    | none =>
      refine (ask_nw0s H line hln pick hg hs hv).mono ?_
      rintro e w' ⟨v, rfl, hv9⟩
      exact ⟨v, rfl, takeR_ok (by unfold askF; rw [if_neg c1, if_neg c2]; simp only [hv]) hv9⟩
    | some vx =>
      by_cases hx : vx.state = 1
      · refine (ask_sw0s H line hln pick hg hs vx hv hx).mono ?_
        rintro e w' ⟨v, rfl, hv9⟩
        exact ⟨v, rfl, takeR_ok (by unfold askF; rw [if_neg c1, if_neg c2]; simp only [hv]; simp [outF, hx]) hv9⟩
      · refine (ask_bw0s H line hln pick hg hs vx hv hx).mono ?_
        rintro e w' ⟨v, rfl, hv9, hn⟩
        exact ⟨v, rfl, takeR_no 230 (by unfold askF; rw [if_neg c1, if_neg c2]; simp only [hv]; simp [outF, hx]) hv9 (H.new hn) hn⟩
theorem ask_c {w : World} {Fp : Nat → Prop} {b : Nat} {id : Int} {n : Nat} {ways : Int} {L : List Ln} {ask : Option (Int × Bool)} {giv : Option Ln} (H : CacheAt w Fp b ⟨id, n, ways, L, ask, giv⟩) (line : Int) (hln : 0 ≤ line ∧ line < 4294967296) (pick : Int) (wr : Bool) : Calls Try.prog 13 #[.pointer (some ⟨b, 0, none⟩), .int .u32 line, .bool wr, .int .i64 pick] w (Ret fun v w' => TakeR w Fp b (askF ⟨id, n, ways, L, ask, giv⟩ line hln wr pick) v w') := by
  rcases ask with _ | ⟨al, aw⟩
  · rcases giv with _ | gx
    · cases wr
      · exact ask_rn H line hln pick
      · exact ask_wn H line hln pick
    · by_cases hg : gx.num = line
      · refine (ask_b2 H line hln pick hg wr).mono ?_
        rintro e w' ⟨v, rfl, hv9, hn⟩
        exact ⟨v, rfl, takeR_no 230 (by unfold askF; rw [if_pos (.inr (by simp [mine, hg]))]) hv9 (H.new hn) hn⟩
      · cases wr
        · exact ask_rs H line hln pick hg
        · exact ask_ws H line hln pick hg
  · refine (ask_b1 H line hln pick wr).mono ?_
    rintro e w' ⟨v, rfl, hv9, hn⟩
    exact ⟨v, rfl, takeR_no 230 (by unfold askF; rw [if_pos (.inl rfl)]) hv9 (H.new hn) hn⟩
end Go.Proofs.Ytflnlmibkbojcaa
namespace Go.Proofs.Ytflnlmibkbojcaa
open Go.RowKit
set_option maxRecDepth 100000 in
set_option maxHeartbeats 4000000 in
theorem place_no (addr : Int) (ha : 0 ≤ addr ∧ addr < 4294967296) (width : Int) (hw1 : ¬ width = 1) (hw2 : ¬ width = 2) (hw4 : ¬ width = 4) (w : World) : Calls Try.prog 54 #[.int .u32 addr, .int .i64 width] w (Ret fun v w' => v = .tuple #[.int .u32 (addr / 16), .int .i64 (addr % 16), .bool false] ∧ w' = w) := by
 refine Zen 32 Try.func54 ?_
 refine Zsr ?_
 refine Za ?_
 refine Za ?_
 refine Za ?_
 refine Znn ?_
 refine Zsr ?_
 refine Zm ?_
 refine Zv (.bool false) (fun _ fr => x_eql rfl (fr.ev rfl) rfl (decide_eq_false hw1)) ?_
 refine Zm ?_
 refine Zm ?_
 refine Zv (.bool false) (fun _ fr => x_eql rfl (fr.ev rfl) rfl (decide_eq_false hw2)) ?_
 refine Zpf ?_
 refine Zm ?_
 refine Zm ?_
 refine Zv (.bool false) (fun _ fr => x_eql rfl (fr.ev rfl) rfl (decide_eq_false hw4)) ?_
 refine Zpf ?_
 refine Zm ?_
 refine Zs ?_
 refine Zs ?_
 refine Zs ?_
 refine Zs ?_
 refine Zs ?_
 refine Zs ?_
 refine Zpf ?_
 refine Za ?_
 refine Znn ?_
 refine Zsr ?_
 refine Zm ?_
 refine Zv (.int .u32 (addr / 16)) (fun _ fr => x_quo rfl (fr.ev rfl) rfl (by decide) (u32q (by omega) (by decide))) ?_
 refine Zm ?_
 refine Zv (.int .u32 (addr % 16)) (fun _ fr => x_rem rfl (fr.ev rfl) rfl (by decide) (rem_nn (by omega))) ?_
 refine Zv _ (fun _ fr => x_convert Try.underlying32 Try.underlying3 rfl (fr.ev rfl) (i64w (r := addr % 16) rfl (by omega))) ?_
 refine Zm ?_
 refine Za ?_
 refine Za ?_
 refine Za ?_
 refine Znn ?_
 refine Zrt ?_
 refine Zre rfl [_, _, _] ⟨rfl, rfl, rfl, trivial⟩ ?_
 exact ⟨_, rfl, rfl, rfl⟩
set_option maxRecDepth 100000 in
set_option maxHeartbeats 4000000 in
theorem place_1 (addr : Int) (ha : 0 ≤ addr ∧ addr < 4294967296) (w : World) : Calls Try.prog 54 #[.int .u32 addr, .int .i64 1] w (Ret fun v w' => v = .tuple #[.int .u32 (addr / 16), .int .i64 (addr % 16), .bool (decide (addr % 1 = 0))] ∧ w' = w) := by
 refine Zen 32 Try.func54 ?_
 refine Zsr ?_
 refine Za ?_
 refine Za ?_
 refine Za ?_
 refine Znn ?_
 refine Zsr ?_
 refine Zm ?_
 refine Zv (.bool true) (fun _ fr => x_eql rfl (fr.ev rfl) rfl rfl) ?_
 refine Zm ?_
 refine Zs ?_
 refine Zs ?_
 refine Zpt ?_
 refine Zm ?_
 refine Zs ?_
 refine Zs ?_
 refine Zpt ?_
 refine Zm ?_
 refine Zm ?_
 refine Zm ?_
 refine Zv (.int .i64 1) (fun _ fr => x_max rfl (fr.ev rfl) rfl (r := 1) (by decide)) ?_
 refine Zv (.int .u32 1) (fun _ fr => x_convert Try.underlying3 Try.underlying32 rfl (fr.ev rfl) rfl) ?_
 refine Zv (.int .u32 (addr % 1)) (fun _ fr => x_rem rfl (fr.ev rfl) (fr.ev rfl) (by decide) (rem_nn (by omega))) ?_
 refine Zv _ (fun _ fr => x_eql rfl (fr.ev rfl) rfl rfl) ?_
 refine Zpt ?_
 refine Za ?_
 refine Znn ?_
 refine Zsr ?_
 refine Zm ?_
 refine Zv (.int .u32 (addr / 16)) (fun _ fr => x_quo rfl (fr.ev rfl) rfl (by decide) (u32q (by omega) (by decide))) ?_
 refine Zm ?_
 refine Zv (.int .u32 (addr % 16)) (fun _ fr => x_rem rfl (fr.ev rfl) rfl (by decide) (rem_nn (by omega))) ?_
 refine Zv _ (fun _ fr => x_convert Try.underlying32 Try.underlying3 rfl (fr.ev rfl) (i64w (r := addr % 16) rfl (by omega))) ?_
 refine Zm ?_
 refine Za ?_
 refine Za ?_
 refine Za ?_
 refine Znn ?_
 refine Zrt ?_
 refine Zre rfl [_, _, _] ⟨rfl, rfl, rfl, trivial⟩ ?_
 exact ⟨_, rfl, rfl, rfl⟩
set_option maxRecDepth 100000 in
set_option maxHeartbeats 4000000 in
theorem place_2 (addr : Int) (ha : 0 ≤ addr ∧ addr < 4294967296) (w : World) : Calls Try.prog 54 #[.int .u32 addr, .int .i64 2] w (Ret fun v w' => v = .tuple #[.int .u32 (addr / 16), .int .i64 (addr % 16), .bool (decide (addr % 2 = 0))] ∧ w' = w) := by
 refine Zen 32 Try.func54 ?_
 refine Zsr ?_
 refine Za ?_
 refine Za ?_
 refine Za ?_
 refine Znn ?_
 refine Zsr ?_
 refine Zm ?_
 refine Zv (.bool false) (fun _ fr => x_eql rfl (fr.ev rfl) rfl rfl) ?_
 refine Zm ?_
 refine Zm ?_
 refine Zv (.bool true) (fun _ fr => x_eql rfl (fr.ev rfl) rfl rfl) ?_
 refine Zpf ?_
 refine Zm ?_
 refine Zs ?_
 refine Zs ?_
 refine Zpt ?_
 refine Zm ?_
 refine Zm ?_
 refine Zm ?_
 refine Zv (.int .i64 2) (fun _ fr => x_max rfl (fr.ev rfl) rfl (r := 2) (by decide)) ?_
 refine Zv (.int .u32 2) (fun _ fr => x_convert Try.underlying3 Try.underlying32 rfl (fr.ev rfl) rfl) ?_
 refine Zv (.int .u32 (addr % 2)) (fun _ fr => x_rem rfl (fr.ev rfl) (fr.ev rfl) (by decide) (rem_nn (by omega))) ?_
 refine Zv _ (fun _ fr => x_eql rfl (fr.ev rfl) rfl rfl) ?_
 refine Zpt ?_
 refine Za ?_
 refine Znn ?_
 refine Zsr ?_
 refine Zm ?_
 refine Zv (.int .u32 (addr / 16)) (fun _ fr => x_quo rfl (fr.ev rfl) rfl (by decide) (u32q (by omega) (by decide))) ?_
 refine Zm ?_
 refine Zv (.int .u32 (addr % 16)) (fun _ fr => x_rem rfl (fr.ev rfl) rfl (by decide) (rem_nn (by omega))) ?_
 refine Zv _ (fun _ fr => x_convert Try.underlying32 Try.underlying3 rfl (fr.ev rfl) (i64w (r := addr % 16) rfl (by omega))) ?_
 refine Zm ?_
 refine Za ?_
 refine Za ?_
 refine Za ?_
 refine Znn ?_
 refine Zrt ?_
 refine Zre rfl [_, _, _] ⟨rfl, rfl, rfl, trivial⟩ ?_
 exact ⟨_, rfl, rfl, rfl⟩
set_option maxRecDepth 100000 in
set_option maxHeartbeats 4000000 in
theorem place_4 (addr : Int) (ha : 0 ≤ addr ∧ addr < 4294967296) (w : World) : Calls Try.prog 54 #[.int .u32 addr, .int .i64 4] w (Ret fun v w' => v = .tuple #[.int .u32 (addr / 16), .int .i64 (addr % 16), .bool (decide (addr % 4 = 0))] ∧ w' = w) := by
 refine Zen 32 Try.func54 ?_
 refine Zsr ?_
 refine Za ?_
 refine Za ?_
 refine Za ?_
 refine Znn ?_
 refine Zsr ?_
 refine Zm ?_
 refine Zv (.bool false) (fun _ fr => x_eql rfl (fr.ev rfl) rfl rfl) ?_
 refine Zm ?_
 refine Zm ?_
 refine Zv (.bool false) (fun _ fr => x_eql rfl (fr.ev rfl) rfl rfl) ?_
 refine Zpf ?_
 refine Zm ?_
 refine Zm ?_
 refine Zv (.bool true) (fun _ fr => x_eql rfl (fr.ev rfl) rfl rfl) ?_
 refine Zpf ?_
 refine Zm ?_
 refine Zm ?_
 refine Zm ?_
 refine Zv (.int .i64 4) (fun _ fr => x_max rfl (fr.ev rfl) rfl (r := 4) (by decide)) ?_
 refine Zv (.int .u32 4) (fun _ fr => x_convert Try.underlying3 Try.underlying32 rfl (fr.ev rfl) rfl) ?_
 refine Zv (.int .u32 (addr % 4)) (fun _ fr => x_rem rfl (fr.ev rfl) (fr.ev rfl) (by decide) (rem_nn (by omega))) ?_
 refine Zv _ (fun _ fr => x_eql rfl (fr.ev rfl) rfl rfl) ?_
 refine Zpt ?_
 refine Za ?_
 refine Znn ?_
 refine Zsr ?_
 refine Zm ?_
 refine Zv (.int .u32 (addr / 16)) (fun _ fr => x_quo rfl (fr.ev rfl) rfl (by decide) (u32q (by omega) (by decide))) ?_
 refine Zm ?_
 refine Zv (.int .u32 (addr % 16)) (fun _ fr => x_rem rfl (fr.ev rfl) rfl (by decide) (rem_nn (by omega))) ?_
 refine Zv _ (fun _ fr => x_convert Try.underlying32 Try.underlying3 rfl (fr.ev rfl) (i64w (r := addr % 16) rfl (by omega))) ?_
 refine Zm ?_
 refine Za ?_
 refine Za ?_
 refine Za ?_
 refine Znn ?_
 refine Zrt ?_
 refine Zre rfl [_, _, _] ⟨rfl, rfl, rfl, trivial⟩ ?_
 exact ⟨_, rfl, rfl, rfl⟩
end Go.Proofs.Ytflnlmibkbojcaa
namespace Go.Proofs.Ytflnlmibkbojcaa
open Go.RowKit
def rdI (bs : List Int) (p : Nat) : Nat → Int
  | 0 => 0
  | i + 1 => rdI bs p i + bs.getD (p + i) 0 * 256 ^ i
def wrL (bs : List Int) (p : Nat) (v : Int) : Nat → List Int
  | 0 => bs
  | i + 1 => (wrL bs p v i).set (p + i) (v / 256 ^ i % 256)
theorem getD_bd {l : List Int} (h : ∀ a ∈ l, 0 ≤ a ∧ a < 256) (j : Nat) : 0 ≤ l.getD j 0 ∧ l.getD j 0 < 256 := by
  by_cases hj : j < l.length
  · have e : l.getD j 0 = l[j] := by simp [List.getD, hj]
    rw [e]
    exact h _ (List.getElem_mem hj)
  · have e : l.getD j 0 = 0 := by simp [List.getD, List.getElem?_eq_none (show l.length ≤ j by omega)]
    rw [e]
    omega
theorem rdI_bd {l : List Int} (h : ∀ a ∈ l, 0 ≤ a ∧ a < 256) (p : Nat) : ∀ i, 0 ≤ rdI l p i ∧ rdI l p i < 256 ^ i
  | 0 => by simp [rdI]
  | i + 1 => by
    have h1 := rdI_bd h p i
    have h2 := getD_bd h (p + i)
    have h3 : (0 : Int) < 256 ^ i := Int.pow_pos (by decide)
    simp only [rdI]
    rw [Int.pow_succ]
    have h4 : 0 ≤ l.getD (p + i) 0 * 256 ^ i := Int.mul_nonneg h2.1 (by omega)
    have h5 : l.getD (p + i) 0 * 256 ^ i ≤ 255 * 256 ^ i := Int.mul_le_mul_of_nonneg_right (by omega) (by omega)
    omega
theorem wrL_len (bs : List Int) (p : Nat) (v : Int) : ∀ i, (wrL bs p v i).length = bs.length
  | 0 => rfl
  | i + 1 => by rw [wrL, List.length_set, wrL_len]
theorem wrL_bd {bs : List Int} (h : ∀ a ∈ bs, 0 ≤ a ∧ a < 256) (p : Nat) (v : Int) : ∀ i, ∀ a ∈ wrL bs p v i, 0 ≤ a ∧ a < 256
  | 0 => h
  | i + 1 => fun a ha => by
    rcases List.mem_or_eq_of_mem_set ha with ha | rfl
    · exact wrL_bd h p v i a ha
    · have h1 := Int.emod_nonneg (v / 256 ^ i) (show (256 : Int) ≠ 0 by decide)
      have h2 := Int.emod_lt_of_pos (v / 256 ^ i) (show (0 : Int) < 256 by decide)
      omega
def wrB (b : B16) (p : Nat) (v : Int) (i : Nat) : B16 := ⟨wrL b.1 p v i, by rw [wrL_len]; exact b.2.1, wrL_bd b.2.2 p v i⟩
theorem or_hi {m q : Nat} {j : Nat} (h : m < 2 ^ j) : m ||| q * 2 ^ j = m + q * 2 ^ j := by
  rw [Nat.or_comm, ← Nat.shiftLeft_eq, ← Nat.shiftLeft_add_eq_or_of_lt h, Nat.add_comm]
theorem rd_or (b : B16) (p j : Nat) (hj : j < 4) : IntKind.u32.wrap (BitVec.ofInt IntKind.u32.bits (rdI b.1 p j) ||| BitVec.ofInt IntKind.u32.bits (b.1.getD (p + j) 0 * 256 ^ j)).toNat = rdI b.1 p (j + 1) := by
  have h1 := rdI_bd b.2.2 p j
  have h2 := getD_bd b.2.2 (p + j)
  have h3 := rdI_bd b.2.2 p (j + 1)
  have e0 : rdI b.1 p (j + 1) = rdI b.1 p j + b.1.getD (p + j) 0 * 256 ^ j := rfl
  rw [e0] at h3 ⊢
  obtain ⟨m, hm⟩ := Int.eq_ofNat_of_zero_le h1.1
  obtain ⟨q, hq⟩ := Int.eq_ofNat_of_zero_le h2.1
  rw [hm] at h1 h3 ⊢
  rw [hq] at h2 h3 ⊢
  have e1 : ((m : Nat) : Int) + ((q : Nat) : Int) * 256 ^ j = ((m + q * 2 ^ (8 * j) : Nat) : Int) := by
    push_cast
    rw [Int.pow_mul]
    rfl
  have e2 : ((q : Nat) : Int) * 256 ^ j = ((q * 2 ^ (8 * j) : Nat) : Int) := by
    push_cast
    rw [Int.pow_mul]
    rfl
  have hb : (256 : Int) ^ (j + 1) ≤ 4294967296 := by
    rcases (show j = 0 ∨ j = 1 ∨ j = 2 ∨ j = 3 by omega) with rfl | rfl | rfl | rfl <;> decide
  have hm8 : m < 2 ^ (8 * j) := by
    have : ((m : Nat) : Int) < ((2 ^ (8 * j) : Nat) : Int) := by
      push_cast
      rw [Int.pow_mul]
      exact h1.2
    omega
  rw [e1] at h3 ⊢
  rw [e2]
  show IntKind.u32.wrap ((BitVec.ofInt 32 ((m : Nat) : Int)) ||| (BitVec.ofInt 32 ((q * 2 ^ (8 * j) : Nat) : Int))).toNat = _
  rw [BitVec.ofInt_natCast, BitVec.ofInt_natCast, BitVec.toNat_or, BitVec.toNat_ofNat, BitVec.toNat_ofNat, Nat.mod_eq_of_lt (show m < 2 ^ 32 by omega), Nat.mod_eq_of_lt (show q * 2 ^ (8 * j) < 2 ^ 32 by omega), or_hi hm8]
  exact u32w rfl (by omega)
theorem sh_up {m : Int} {j : Nat} (hm : 0 ≤ m ∧ m < 256) (hj : j < 4) : IntKind.u32.wrap (m * 2 ^ min (((8 * j : Nat) : Int)).toNat IntKind.u32.bits) = m * 256 ^ j := by
  rcases (show j = 0 ∨ j = 1 ∨ j = 2 ∨ j = 3 by omega) with rfl | rfl | rfl | rfl
  all_goals
    simp [IntKind.bits]
    exact u32w rfl (by omega)
theorem sh_dn {m : Int} {j : Nat} (hj : j < 4) : m.fdiv (2 ^ min (((8 * j : Nat) : Int)).toNat IntKind.u32.bits) = m / 256 ^ j := by
  rcases (show j = 0 ∨ j = 1 ∨ j = 2 ∨ j = 3 by omega) with rfl | rfl | rfl | rfl
  all_goals
    simp [IntKind.bits]
    try exact Int.fdiv_eq_ediv_of_nonneg _ (by decide)
theorem ln_cell (x : Ln) {j : Nat} (hj : j < 16) : (lnE.arr x)[2 + j]? = some (.int .u8 (x.bs.1.getD j 0)) := by
  have hl := x.bs.2.1
  simp only [Enc.arr, List.getElem?_toArray]
  show (x.cells)[2 + j]? = _
  rw [Nat.add_comm]
  simp [Ln.cells, List.getD, List.getElem?_eq_getElem (show j < x.bs.1.length by omega)]
theorem ln_setb (x : Ln) (p i : Nat) (v : Int) (hj : p + i < 16) : (lnE.arr { x with bs := wrB x.bs p v i }).setIfInBounds (2 + (p + i)) (.int .u8 (v / 256 ^ i % 256)) = lnE.arr { x with bs := wrB x.bs p v (i + 1) } := by
  apply Array.toList_inj.1
  rw [Array.toList_setIfInBounds, Enc.toList, Enc.toList]
  show (Ln.cells _).set (2 + (p + i)) _ = Ln.cells _
  rw [Nat.add_comm 2]
  simp [Ln.cells, wrB, wrL, List.map_set]
def rightA (addr width : Int) : Bool := (decide (width = 1) || decide (width = 2) || decide (width = 4)) && decide (addr % width = 0)
theorem rightA_yes {addr width : Int} (ha : 0 ≤ addr) (h : rightA addr width = true) : 1 ≤ width ∧ width ≤ 4 ∧ addr % 16 + width ≤ 16 := by
  simp [rightA] at h
  obtain ⟨(h1 | h1) | h1, h2⟩ := h <;> subst h1 <;> omega
theorem place_c (addr width : Int) (ha : 0 ≤ addr ∧ addr < 4294967296) (w : World) : Calls Try.prog 54 #[.int .u32 addr, .int .i64 width] w (Ret fun v w' => v = .tuple #[.int .u32 (addr / 16), .int .i64 (addr % 16), .bool (rightA addr width)] ∧ w' = w) := by
  by_cases h1 : width = 1
  · subst h1
    refine (place_1 addr ha w).mono ?_
    rintro e w' ⟨v, rfl, rfl, rfl⟩
    exact ⟨_, rfl, by simp [rightA], rfl⟩
  by_cases h2 : width = 2
  · subst h2
    refine (place_2 addr ha w).mono ?_
    rintro e w' ⟨v, rfl, rfl, rfl⟩
    exact ⟨_, rfl, by simp [rightA], rfl⟩
  by_cases h4 : width = 4
  · subst h4
    refine (place_4 addr ha w).mono ?_
    rintro e w' ⟨v, rfl, rfl, rfl⟩
    exact ⟨_, rfl, by simp [rightA], rfl⟩
  refine (place_no addr ha width h1 h2 h4 w).mono ?_
  rintro e w' ⟨v, rfl, rfl, rfl⟩
  exact ⟨_, rfl, by simp [rightA, h1, h2, h4], rfl⟩
def readF (L : List Ln) (addr width : Int) : Int × Int :=
  if rightA addr width = false then (0, 2) else match getN L (addr / 16) with
    | none => (0, 232)
    | some x => (rdI x.bs.1 (addr % 16).toNat width.toNat, 0)
def wrLn (x : Ln) (addr width v : Int) : Ln := { x with bs := wrB x.bs (addr % 16).toNat v width.toNat, state := 3 }
def writeF (d : CD) (addr width v : Int) : CD × Int :=
  if rightA addr width = false then (d, 2) else if writesB (stateOf d.L (addr / 16)) = false then (d, 232)
  else ({ d with L := putL d.n d.ways d.L (wrLn ((getN d.L (addr / 16)).getD ln0) addr width v) }, 0)
theorem get_num {L : List Ln} {num : Int} {x : Ln} (h : getN L num = some x) : x.num = num := by
  have := List.find?_some h
  simpa [isNum] using this
theorem w_there {L : List Ln} {num : Int} (h : writesB ((getN L num).getD ln0).state = true) : ∃ y, getN L num = some y ∧ (getN L num).getD ln0 = y := by
  cases hg : getN L num with
  | none => rw [hg] at h; exact absurd h (by decide)
  | some y => exact ⟨y, rfl, rfl⟩
theorem put_there {n : Nat} {ways : Int} {L : List Ln} {num : Int} (h : writesB ((getN L num).getD ln0).state = true) (x : Ln) (h1 : x.num = ((getN L num).getD ln0).num) (h2 : x.state = 3) : putE n ways L x = 0 := by
  obtain ⟨y, hy, hd⟩ := w_there h
  have hn : x.num = num := by rw [h1, hd]; exact get_num hy
  have ho : ¬ okS x = false := by simp [okS, h2]
  unfold putE
  rw [if_neg ho, if_neg (fun hh => by rw [hn, hy] at hh; cases hh.1)]
def WriteR (w : World) (Fp : Nat → Prop) (b : Nat) (r : CD × Int) (v : Value) (w' : World) : Prop :=
  v = .int .i64 r.2 ∧ ∃ Fp', CacheAt w' Fp' b r.1 ∧ Only Fp w w' ∧ ∀ g, Fp' g → Fp g ∨ w.heap.size ≤ g
theorem wr_no {w w' : World} {Fp : Nat → Prop} {b : Nat} {r : CD × Int} {d : CD} {e : Int} (hr : r = (d, e)) (h : CacheAt w Fp b d) (hn : New w w') : WriteR w Fp b r (.int .i64 e) w' := by
  subst hr
  exact ⟨rfl, Fp, h.new hn, hn.mono fun _ _ h => h.elim, fun g hg => .inl hg⟩
theorem wr_ok {w w' : World} {Fp : Nat → Prop} {b : Nat} {r : CD × Int} {d : CD} {e : Int} (hr : r = (d, e)) (Fp' : Nat → Prop) (h : CacheAt w' Fp' b d) (hO : Only Fp w w') (hi : ∀ g, Fp' g → Fp g ∨ w.heap.size ≤ g) : WriteR w Fp b r (.int .i64 e) w' := by
  subst hr
  exact ⟨rfl, Fp', h, hO, hi⟩
def HasRoom (n : Nat) (ways : Int) (L : List Ln) (num : Int) : Prop := getN L num = none → ((ofs n L (si n num)).length : Int) < ways
def RoomOk (d : CD) : Prop := ∀ l wr, d.ask = some (l, wr) → HasRoom d.n d.ways d.L l
end Go.Proofs.Ytflnlmibkbojcaa
namespace Go.Proofs.Ytflnlmibkbojcaa
open Go.RowKit
set_option maxRecDepth 100000 in
set_option maxHeartbeats 4000000 in
theorem read_c (addr : Int) (ha : 0 ≤ addr ∧ addr < 4294967296) (width : Int) {w : World} {b lb : Nat} {id : Int} {pa pg : Value} {FpL : Nat → Prop} {n : Nat} {ways : Int} {L : List Ln} (hB : Blk w b 83 #[.int .i64 id, .pointer (some ⟨lb, 0, none⟩), pa, pg]) (hL : LinesAt w FpL lb n ways L) (ap_FpL_b : ¬ FpL b)  : Calls Try.prog 17 #[.pointer (some ⟨b, 0, none⟩), .int .u32 addr, .int .i64 width] w (Ret fun v w' => v = .tuple #[.int .u32 (readF L addr width).1, .int .i64 (readF L addr width).2] ∧ New w w') := by
 obtain ⟨hn1, hn2, hw1, hw2⟩ := hL.bd
 have hF := Only.refl (fun _ => False) w
 refine Zen 55 Try.func17 ?_
 refine Zsr ?_
 refine Za ?_
 refine Za ?_
 refine Znn ?_
 refine Zsq ?_
 refine Zsr ?_
 refine Zm ?_
 refine Zk cf43 (cnone_c hB) ?_
 rintro v w9 ⟨rfl, hw9⟩
 obtain rfl := hw9.symm
 refine Znn ?_
 refine Zcf ?_
 refine Zsk ?_
 refine Znx ?_
 refine Zsr ?_
 refine Zm ?_
 refine Zm ?_
 refine Zk (args := #[.int .u32 addr, .int .i64 width]) cf54 (place_c addr width (by omega) _) ?_
 rintro v w9 ⟨rfl, hw9⟩
 obtain rfl := hw9.symm
 refine Zm ?_
 refine Zt ?_
 refine Zt ?_
 refine Zt ?_
 refine Za ?_
 refine Za ?_
 refine Za ?_
 refine Znn ?_
 refine Zsq ?_
 refine Zsr ?_
 refine Zm ?_
 refine Zv _ (fun _ fr => x_not rfl (fr.ev rfl) rfl) ?_
 refine Znn ?_
 refine Zcd (fun hc5 => ?_) (fun hc5 => ?_)
 ·refine Zsr ?_
  refine Za ?_
  refine Za ?_
  refine Znn ?_
  refine Zrt ?_
  refine Zr1 ?_
  refine Zre rfl [_, _] ⟨rfl, rfl, trivial⟩ ?_
  have hq : readF L addr width = (0, 2) := by unfold readF; rw [if_pos (by simpa using hc5)]
  rw [hq]
  exact ⟨_, rfl, rfl, hF⟩
 ·refine Zsk ?_
  refine Znx ?_
  refine Zsq ?_
  have hrt : rightA addr width = true := by simpa using hc5
  have hrd := rightA_yes (by omega) hrt
  refine Zrg ?_
  refine Zm ?_
  refine Zn ?_
  refine Zf fo83_1 ?_
  refine Zd pl79 (hB.cell 1 rfl) ?_
  refine Zm ?_
  refine Zk (args := #[.pointer (some ⟨lb, 0, none⟩), .int .u32 (addr / 16)]) cf55 (find_c (addr / 16) (by omega) hL) ?_
  rintro v w6 ⟨rfl, hN7⟩
  refine Zm ?_
  refine Zt ?_
  refine Zt ?_
  refine Zna (z := zv1) (cs := lnE.arr ln0) (by kernel_rfl) fun b8 w9 hN10 B11 hb12 => ?_
  replace hB := hB.new hN7
  have ne_b_b8 : NE b b8 := NE.mk (Nat.lt_of_lt_of_le hB.lt hb12)
  replace hL := hL.new hN7
  have ap_FpL_b8 : ¬ FpL b8 := hL.apart hb12
  replace hF := hF.trNew hN7
  have g_b8 := Nat.le_trans hF.size hb12
  refine ZsS sz39 (lnE.all _) B11 (lnE.size _) (lnE.size _) fun w13 hO14 hBq => ?_
  replace B11 := hBq
  clear hBq
  refine Za ?_
  refine Znn ?_
  refine Zsq ?_
  refine Zsr ?_
  refine Zm ?_
  refine Zv _ (fun _ fr => x_not rfl (fr.ev rfl) rfl) ?_
  refine Znn ?_
  refine Zcd (fun hc15 => ?_) (fun hc15 => ?_)
  ·refine Zsr ?_
   refine Za ?_
   refine Za ?_
   refine Znn ?_
   refine Zrt ?_
   refine Zr1 ?_
   refine Zre rfl [_, _] ⟨rfl, rfl, trivial⟩ ?_
   have hnr : ¬ rightA addr width = false := by rw [hrt]; decide
   have hq : readF L addr width = (0, 232) := by unfold readF; rw [if_neg hnr]; cases hg : getN L (addr / 16) with
   | none => rfl
   | some x => simp [hg] at hc15
   rw [hq]
   replace hF := (hF.trNew hN10).loc hO14 (.inr g_b8)
   exact ⟨_, rfl, rfl, hF⟩
  ·refine Zsk ?_
   refine Znx ?_
   refine Zsr ?_
   refine Za ?_
   refine Znn ?_
   refine Zsq ?_
   refine Zsr ?_
   refine Zm ?_
   refine Zm ?_
   refine Znn ?_
   refine Zbl ?_
   intro a fr
   replace hB := (hB.new hN10).only hO14 ne_b_b8
   replace hL := (hL.new hN10).only hO14 (ne1P ap_FpL_b8)
   replace hF := (hF.trNew hN10).loc hO14 (.inr g_b8)
   refine fx_loop (fun nM a wL => ∃ j : Nat, nM = (width - j).toNat ∧ Fr (55, []) [(0, .pointer (some ⟨b, 0, none⟩)), (1, .int .u32 addr), (2, .int .i64 width), (8, .int .u32 (addr / 16)), (9, .int .i64 (addr % 16)), (11, .pointer (some ⟨b8, 0, none⟩)), (37, .int .i64 width), (13, .int .u32 (rdI ((getN L (addr / 16)).getD ln0).bs.1 (addr % 16).toNat j)), (38, .int .i64 ((j : Nat) : Int))] a ∧ Only (fun _ => False) w wL ∧ Blk wL b 83 #[.int .i64 id, .pointer (some ⟨lb, 0, none⟩), pa, pg] ∧ LinesAt wL FpL lb n ways L ∧ Blk wL b8 39 (lnE.arr ((getN L (addr / 16)).getD ln0)) ∧ ((j : Nat) : Int) ≤ width) (n0 := _) ⟨0, rfl, fr.sub ⟨rfl, rfl, rfl, rfl, rfl, rfl, rfl, rfl, rfl, trivial⟩, hF, hB, hL, B11, by omega⟩ ?_
   clear fr a
   rintro n17 a w16 ⟨j, rfl, fr, hF, hB, hL, B11, hj⟩
   revert a
   refine Zsr ?_
   refine Zv _ (fun _ fr => x_lss rfl (fr.ev rfl) (fr.ev rfl) rfl) ?_
   refine Znn ?_
   refine Zsq ?_
   refine Zcd (fun hc18 => ?_) (fun hc18 => ?_)
   ·have hc18 := of_decide_eq_true hc18
    refine Zsk ?_
    refine Znx ?_
    refine Zsq ?_
    refine Zbl ?_
    refine Zsr ?_
    refine Zm ?_
    refine Za ?_
    refine Znn ?_
    refine Zrg ?_
    refine Zm ?_
    refine Zm ?_
    refine Zm ?_
    refine Zv _ (fun _ fr => x_add rfl (fr.ev rfl) (fr.ev rfl) (i64w (r := ((((addr % 16).toNat) + j : Nat) : Int)) (by omega) (by omega))) ?_
    refine Zf fo39_2 ?_
    refine Zv (.pointer (some ⟨b8, 2 + (((addr % 16).toNat) + j), none⟩)) (fun _ fr => x_indexArr Try.underlying22 sz16 rfl (fr.ev rfl) (fr.ev rfl) (by omega) (show 2 + (((addr % 16).toNat) + j) * 1 = 2 + (((addr % 16).toNat) + j) by omega)) ?_
    refine Zd (v := .int .u8 (((getN L (addr / 16)).getD ln0).bs.1.getD (((addr % 16).toNat) + j) 0)) pl5 (B11.cell _ (ln_cell ((getN L (addr / 16)).getD ln0) (j := ((addr % 16).toNat) + j) (by omega))) ?_
    refine Zv (.int .u32 (((getN L (addr / 16)).getD ln0).bs.1.getD (((addr % 16).toNat) + j) 0)) (fun _ fr => x_convert Try.underlying5 Try.underlying32 rfl (fr.ev rfl) (u32w (r := ((getN L (addr / 16)).getD ln0).bs.1.getD (((addr % 16).toNat) + j) 0) rfl (by have := getD_bd ((getN L (addr / 16)).getD ln0).bs.2.2 (((addr % 16).toNat) + j); omega))) ?_
    refine Zm ?_
    refine Zv _ (fun _ fr => x_mul rfl rfl (fr.ev rfl) (i64w (r := ((8 * j : Nat) : Int)) (by omega) (by omega))) ?_
    refine Zv (.int .u32 (((getN L (addr / 16)).getD ln0).bs.1.getD (((addr % 16).toNat) + j) 0 * 256 ^ j)) (fun _ fr => x_shl rfl (fr.ev rfl) (fr.ev rfl) (by omega) (sh_up (getD_bd ((getN L (addr / 16)).getD ln0).bs.2.2 (((addr % 16).toNat) + j)) (by omega))) ?_
    refine Zv (.int .u32 (rdI ((getN L (addr / 16)).getD ln0).bs.1 (addr % 16).toNat (j + 1))) (fun _ fr => x_or rfl (fr.ev rfl) (fr.ev rfl) (rd_or ((getN L (addr / 16)).getD ln0).bs (addr % 16).toNat j (by omega))) ?_
    refine Za ?_
    refine Znl ?_
    refine Zb ?_
    refine Znx ?_
    refine Zrg ?_
    refine Zv _ (fun _ fr => x_add rfl (fr.ev rfl) rfl (i64w (r := ((j + 1 : Nat) : Int)) (by omega) (by omega))) ?_
    refine Zm ?_
    intro a fr
    refine wpList_nil ?_
    refine fx_next ?_
    exact ⟨_, by omega, (j + 1), rfl, fr.sub ⟨rfl, rfl, rfl, rfl, rfl, rfl, rfl, rfl, rfl, trivial⟩, hF, hB, hL, B11, by omega⟩
   ·have hc18 := of_decide_eq_false hc18
    refine Zex ?_
    refine Zxt ?_
    refine Zxt ?_
    refine Zxx ?_
    refine Znx ?_
    refine Zsr ?_
    refine Zm ?_
    refine Za ?_
    refine Za ?_
    refine Znn ?_
    refine Zrt ?_
    refine Zre rfl [_, _] ⟨rfl, rfl, trivial⟩ ?_
    have hnr : ¬ rightA addr width = false := by rw [hrt]; decide
    obtain rfl : j = width.toNat := by omega
    have hq : readF L addr width = (rdI ((getN L (addr / 16)).getD ln0).bs.1 (addr % 16).toNat width.toNat, 0) := by unfold readF; rw [if_neg hnr]; cases hg : getN L (addr / 16) with
    | none => simp [hg] at hc15
    | some x => rfl
    rw [hq]
    exact ⟨_, rfl, rfl, hF⟩
set_option maxRecDepth 100000 in
set_option maxHeartbeats 4000000 in
theorem write_a (addr : Int) (ha : 0 ≤ addr ∧ addr < 4294967296) (width : Int) {w : World} {Fp : Nat → Prop} {b : Nat} {id : Int} {n : Nat} {ways : Int} {L : List Ln} {ask : Option (Int × Bool)} {giv : Option Ln} (H : CacheAt w Fp b ⟨id, n, ways, L, ask, giv⟩) (value : Int) (hrt : rightA addr width = false)  : Calls Try.prog 15 #[.pointer (some ⟨b, 0, none⟩), .int .u32 addr, .int .i64 width, .int .u32 value] w (Ret fun v w' => WriteR w Fp b (writeF ⟨id, n, ways, L, ask, giv⟩ addr width value) v w') := by
 have H9 := H
 obtain ⟨lb, FpL, pa, pg, FpA, FpG, hB, hL, hA, hG, hP⟩ := H
 dsimp only at hB hL hA hG
 obtain ⟨hn1, hn2, hw1, hw2⟩ := hL.bd
 have hF := Only.refl (fun _ => False) w
 refine Zen 61 Try.func15 ?_
 refine Zsr ?_
 refine Za ?_
 refine Znn ?_
 refine Zsq ?_
 refine Zsr ?_
 refine Zm ?_
 refine Zk cf43 (cnone_c hB) ?_
 rintro v w9 ⟨rfl, hw9⟩
 obtain rfl := hw9.symm
 refine Znn ?_
 refine Zcf ?_
 refine Zsk ?_
 refine Znx ?_
 refine Zsr ?_
 refine Zm ?_
 refine Zm ?_
 refine Zk (args := #[.int .u32 addr, .int .i64 width]) cf54 (place_c addr width (by omega) _) ?_
 rintro v w9 ⟨rfl, hw9⟩
 obtain rfl := hw9.symm
 refine Zm ?_
 refine Zt ?_
 refine Zt ?_
 refine Zt ?_
 refine Za ?_
 refine Za ?_
 refine Za ?_
 refine Znn ?_
 refine Zsq ?_
 refine Zsq ?_
 intro a fr
 rw [hrt] at fr
 revert a
 refine Zrg ?_
 refine Zm ?_
 refine Zv (.bool true) (fun _ fr => x_not rfl (fr.ev rfl) rfl) ?_
 refine Znn ?_
 refine Zct ?_
 refine Zsr ?_
 refine Za ?_
 refine Znn ?_
 refine Zrt ?_
 refine Zr1 ?_
 refine Zre rfl [_] ⟨rfl, trivial⟩ ?_
 exact ⟨_, rfl, wr_no (by unfold writeF; rw [if_pos hrt]) H9 hF⟩
set_option maxRecDepth 100000 in
set_option maxHeartbeats 4000000 in
theorem write_m (addr : Int) (ha : 0 ≤ addr ∧ addr < 4294967296) (width : Int) {w : World} {Fp : Nat → Prop} {b : Nat} {id : Int} {n : Nat} {ways : Int} {L : List Ln} {ask : Option (Int × Bool)} {giv : Option Ln} (H : CacheAt w Fp b ⟨id, n, ways, L, ask, giv⟩) (value : Int) (hrt : rightA addr width = true) (hwt : writesB (stateOf L (addr / 16)) = false)  : Calls Try.prog 15 #[.pointer (some ⟨b, 0, none⟩), .int .u32 addr, .int .i64 width, .int .u32 value] w (Ret fun v w' => WriteR w Fp b (writeF ⟨id, n, ways, L, ask, giv⟩ addr width value) v w') := by
 have hwx : writesB (((getN L (addr / 16)).getD ln0).state) = false := hwt
 have H9 := H
 obtain ⟨lb, FpL, pa, pg, FpA, FpG, hB, hL, hA, hG, hP⟩ := H
 dsimp only at hB hL hA hG
 obtain ⟨hn1, hn2, hw1, hw2⟩ := hL.bd
 have hF := Only.refl (fun _ => False) w
 refine Zen 61 Try.func15 ?_
 refine Zsr ?_
 refine Za ?_
 refine Znn ?_
 refine Zsq ?_
 refine Zsr ?_
 refine Zm ?_
 refine Zk cf43 (cnone_c hB) ?_
 rintro v w9 ⟨rfl, hw9⟩
 obtain rfl := hw9.symm
 refine Znn ?_
 refine Zcf ?_
 refine Zsk ?_
 refine Znx ?_
 refine Zsr ?_
 refine Zm ?_
 refine Zm ?_
 refine Zk (args := #[.int .u32 addr, .int .i64 width]) cf54 (place_c addr width (by omega) _) ?_
 rintro v w9 ⟨rfl, hw9⟩
 obtain rfl := hw9.symm
 refine Zm ?_
 refine Zt ?_
 refine Zt ?_
 refine Zt ?_
 refine Za ?_
 refine Za ?_
 refine Za ?_
 refine Znn ?_
 refine Zsq ?_
 refine Zsq ?_
 intro a fr
 rw [hrt] at fr
 revert a
 refine Zrg ?_
 refine Zm ?_
 refine Zv (.bool false) (fun _ fr => x_not rfl (fr.ev rfl) rfl) ?_
 refine Znn ?_
 refine Zcf ?_
 refine Zsk ?_
 refine Znx ?_
 refine Zsq ?_
 have hrd := rightA_yes (by omega) hrt
 refine Zrg ?_
 refine Zm ?_
 refine Zn ?_
 refine Zf fo83_1 ?_
 refine Zd pl79 (hB.cell 1 rfl) ?_
 refine Zm ?_
 refine Zk (args := #[.pointer (some ⟨lb, 0, none⟩), .int .u32 (addr / 16)]) cf55 (find_c (addr / 16) (by omega) hL) ?_
 rintro v w5 ⟨rfl, hN6⟩
 refine Zm ?_
 refine Zt ?_
 refine Zt ?_
 refine Zna (z := zv1) (cs := lnE.arr ln0) (by kernel_rfl) fun b7 w8 hN9 B10 hb11 => ?_
 replace hF := hF.trNew hN6
 have g_b7 := Nat.le_trans hF.size hb11
 refine ZsS sz39 (lnE.all _) B10 (lnE.size _) (lnE.size _) fun w12 hO13 hBq => ?_
 replace B10 := hBq
 clear hBq
 refine Za ?_
 refine Znn ?_
 refine Zsq ?_
 refine Zsr ?_
 refine Zf fo39_1 ?_
 refine Zd (v := .int .i64 (((getN L (addr / 16)).getD ln0).state)) pl36 (B10.cell 1 rfl) ?_
 refine Zk cf44 (writes_c (((getN L (addr / 16)).getD ln0).state) _) ?_
 rintro v _ ⟨rfl, hw9⟩
 obtain rfl := hw9.symm
 intro a fr
 rw [hwx] at fr
 revert a
 refine Zv (.bool true) (fun _ fr => x_not rfl (fr.ev rfl) rfl) ?_
 refine Znn ?_
 refine Zct ?_
 refine Zsr ?_
 refine Za ?_
 refine Znn ?_
 refine Zrt ?_
 refine Zr1 ?_
 refine Zre rfl [_] ⟨rfl, trivial⟩ ?_
 replace hF := (hF.trNew hN9).loc hO13 (.inr g_b7)
 exact ⟨_, rfl, wr_no (by unfold writeF; rw [if_neg (by rw [hrt]; decide), if_pos hwt]) H9 hF⟩
set_option maxRecDepth 100000 in
set_option maxHeartbeats 4000000 in
theorem write_y (addr : Int) (ha : 0 ≤ addr ∧ addr < 4294967296) (width : Int) {w : World} {Fp : Nat → Prop} {b : Nat} {id : Int} {n : Nat} {ways : Int} {L : List Ln} {ask : Option (Int × Bool)} {giv : Option Ln} (H : CacheAt w Fp b ⟨id, n, ways, L, ask, giv⟩) (value : Int) (hrt : rightA addr width = true) (hwt : writesB (stateOf L (addr / 16)) = true)  : Calls Try.prog 15 #[.pointer (some ⟨b, 0, none⟩), .int .u32 addr, .int .i64 width, .int .u32 value] w (Ret fun v w' => WriteR w Fp b (writeF ⟨id, n, ways, L, ask, giv⟩ addr width value) v w') := by
 have hwx : writesB (((getN L (addr / 16)).getD ln0).state) = true := hwt
 have H9 := H
 obtain ⟨lb, FpL, pa, pg, FpA, FpG, hB, hL, hA, hG, hP⟩ := H
 dsimp only at hB hL hA hG
 have ap_FpL_b := hP.lb
 have ap_FpA_b := hP.ab
 have ap_FpG_b := hP.gb
 have ap2_FpL_FpA := hP.la
 have ap2_FpL_FpG := hP.lg
 have ap2_FpA_FpG := hP.ag
 obtain ⟨hn1, hn2, hw1, hw2⟩ := hL.bd
 have gA_FpL : ∀ g, FpL g → Fp g ∨ w.heap.size ≤ g := fun g hg => .inl ((hP.foot g).2 (.inr (.inl hg)))
 have gA_FpA : ∀ g, FpA g → Fp g ∨ w.heap.size ≤ g := fun g hg => .inl ((hP.foot g).2 (.inr (.inr (.inl hg))))
 have gA_FpG : ∀ g, FpG g → Fp g ∨ w.heap.size ≤ g := fun g hg => .inl ((hP.foot g).2 (.inr (.inr (.inr hg))))
 have hF := Only.refl (Fp) w
 refine Zen 61 Try.func15 ?_
 refine Zsr ?_
 refine Za ?_
 refine Znn ?_
 refine Zsq ?_
 refine Zsr ?_
 refine Zm ?_
 refine Zk cf43 (cnone_c hB) ?_
 rintro v w9 ⟨rfl, hw9⟩
 obtain rfl := hw9.symm
 refine Znn ?_
 refine Zcf ?_
 refine Zsk ?_
 refine Znx ?_
 refine Zsr ?_
 refine Zm ?_
 refine Zm ?_
 refine Zk (args := #[.int .u32 addr, .int .i64 width]) cf54 (place_c addr width (by omega) _) ?_
 rintro v w9 ⟨rfl, hw9⟩
 obtain rfl := hw9.symm
 refine Zm ?_
 refine Zt ?_
 refine Zt ?_
 refine Zt ?_
 refine Za ?_
 refine Za ?_
 refine Za ?_
 refine Znn ?_
 refine Zsq ?_
 refine Zsq ?_
 intro a fr
 rw [hrt] at fr
 revert a
 refine Zrg ?_
 refine Zm ?_
 refine Zv (.bool false) (fun _ fr => x_not rfl (fr.ev rfl) rfl) ?_
 refine Znn ?_
 refine Zcf ?_
 refine Zsk ?_
 refine Znx ?_
 refine Zsq ?_
 have hrd := rightA_yes (by omega) hrt
 refine Zrg ?_
 refine Zm ?_
 refine Zn ?_
 refine Zf fo83_1 ?_
 refine Zd pl79 (hB.cell 1 rfl) ?_
 refine Zm ?_
 refine Zk (args := #[.pointer (some ⟨lb, 0, none⟩), .int .u32 (addr / 16)]) cf55 (find_c (addr / 16) (by omega) hL) ?_
 rintro v w5 ⟨rfl, hN6⟩
 refine Zm ?_
 refine Zt ?_
 refine Zt ?_
 refine Zna (z := zv1) (cs := lnE.arr ln0) (by kernel_rfl) fun b7 w8 hN9 B10 hb11 => ?_
 replace hB := hB.new hN6
 have ne_b_b7 : NE b b7 := NE.mk (Nat.lt_of_lt_of_le hB.lt hb11)
 replace hL := hL.new hN6
 have ap_FpL_b7 : ¬ FpL b7 := hL.apart hb11
 replace hA := hA.new hN6
 have ap_FpA_b7 : ¬ FpA b7 := hA.apart hb11
 replace hG := hG.new hN6
 have ap_FpG_b7 : ¬ FpG b7 := hG.apart hb11
 replace hF := hF.trNew hN6
 have g_b7 := Nat.le_trans hF.size hb11
 refine ZsS sz39 (lnE.all _) B10 (lnE.size _) (lnE.size _) fun w12 hO13 hBq => ?_
 replace B10 := hBq
 clear hBq
 refine Za ?_
 refine Znn ?_
 refine Zsq ?_
 refine Zsr ?_
 refine Zf fo39_1 ?_
 refine Zd (v := .int .i64 (((getN L (addr / 16)).getD ln0).state)) pl36 (B10.cell 1 rfl) ?_
 refine Zk cf44 (writes_c (((getN L (addr / 16)).getD ln0).state) _) ?_
 rintro v _ ⟨rfl, hw9⟩
 obtain rfl := hw9.symm
 intro a fr
 rw [hwx] at fr
 revert a
 refine Zv (.bool false) (fun _ fr => x_not rfl (fr.ev rfl) rfl) ?_
 refine Znn ?_
 refine Zcf ?_
 refine Zsk ?_
 refine Znx ?_
 refine Zsq ?_
 refine Zsr ?_
 refine Zm ?_
 refine Zm ?_
 refine Znn ?_
 refine Zbl ?_
 intro a fr
 replace hB := (hB.new hN9).only hO13 ne_b_b7
 replace hL := (hL.new hN9).only hO13 (ne1P ap_FpL_b7)
 replace hA := (hA.new hN9).only hO13 (ne1P ap_FpA_b7)
 replace hG := (hG.new hN9).only hO13 (ne1P ap_FpG_b7)
 replace hF := (hF.trNew hN9).loc hO13 (.inr g_b7)
 refine fx_loop (fun nM a wL => ∃ j : Nat, nM = (width - j).toNat ∧ Fr (61, []) [(0, .pointer (some ⟨b, 0, none⟩)), (1, .int .u32 addr), (2, .int .i64 width), (3, .int .u32 value), (9, .int .u32 (addr / 16)), (10, .int .i64 (addr % 16)), (12, .pointer (some ⟨b7, 0, none⟩)), (39, .int .i64 width), (40, .int .i64 ((j : Nat) : Int))] a ∧ Only (Fp) w wL ∧ Blk wL b 83 #[.int .i64 id, .pointer (some ⟨lb, 0, none⟩), pa, pg] ∧ LinesAt wL FpL lb n ways L ∧ AskAt wL FpA pa ask ∧ GivAt wL FpG pg giv ∧ Blk wL b7 39 (lnE.arr { ((getN L (addr / 16)).getD ln0) with bs := wrB ((getN L (addr / 16)).getD ln0).bs (addr % 16).toNat value j }) ∧ ((j : Nat) : Int) ≤ width) (n0 := _) ⟨0, rfl, fr.sub ⟨rfl, rfl, rfl, rfl, rfl, rfl, rfl, rfl, rfl, trivial⟩, hF, hB, hL, hA, hG, B10, by omega⟩ ?_
 clear fr a
 rintro n17 a w16 ⟨j, rfl, fr, hF, hB, hL, hA, hG, B10, hj⟩
 revert a
 refine Zsr ?_
 refine Zv _ (fun _ fr => x_lss rfl (fr.ev rfl) (fr.ev rfl) rfl) ?_
 refine Znn ?_
 refine Zsq ?_
 refine Zcd (fun hc18 => ?_) (fun hc18 => ?_)
 ·have hc18 := of_decide_eq_true hc18
  refine Zsk ?_
  refine Znx ?_
  refine Zsq ?_
  refine Zbl ?_
  refine Zsr ?_
  refine Zm ?_
  refine Za ?_
  refine Znn ?_
  refine Zrg ?_
  refine Zm ?_
  refine Zm ?_
  refine Zv _ (fun _ fr => x_add rfl (fr.ev rfl) (fr.ev rfl) (i64w (r := ((((addr % 16).toNat) + j : Nat) : Int)) (by omega) (by omega))) ?_
  refine Zm ?_
  refine Zm ?_
  refine Zv _ (fun _ fr => x_mul rfl rfl (fr.ev rfl) (i64w (r := ((8 * j : Nat) : Int)) (by omega) (by omega))) ?_
  refine Zv (.int .u32 (value / 256 ^ j)) (fun _ fr => x_shr rfl (fr.ev rfl) (fr.ev rfl) (by omega) (sh_dn (by omega))) ?_
  refine Zv _ (fun _ fr => x_convert Try.underlying32 Try.underlying5 rfl (fr.ev rfl) (u8m _)) ?_
  refine Zf fo39_2 ?_
  refine Zv (.pointer (some ⟨b7, 2 + (((addr % 16).toNat) + j), none⟩)) (fun _ fr => x_indexArr Try.underlying22 sz16 rfl (fr.ev rfl) (fr.ev rfl) (by omega) (show 2 + (((addr % 16).toNat) + j) * 1 = 2 + (((addr % 16).toNat) + j) by omega)) ?_
  refine Zs1 (cs' := lnE.arr { ((getN L (addr / 16)).getD ln0) with bs := wrB ((getN L (addr / 16)).getD ln0).bs (addr % 16).toNat value (j + 1) }) sz5 B10 (by rw [lnE.size]; show _ < 18; omega) (ln_setb ((getN L (addr / 16)).getD ln0) (addr % 16).toNat j value (by omega)) fun w19 hO20 hBq => ?_
  replace B10 := hBq
  clear hBq
  refine Znl ?_
  refine Zb ?_
  refine Znx ?_
  refine Zrg ?_
  refine Zv _ (fun _ fr => x_add rfl (fr.ev rfl) rfl (i64w (r := ((j + 1 : Nat) : Int)) (by omega) (by omega))) ?_
  refine Zm ?_
  intro a fr
  refine wpList_nil ?_
  refine fx_next ?_
  replace hB := hB.only hO20 ne_b_b7
  replace hL := hL.only hO20 (ne1P ap_FpL_b7)
  replace hA := hA.only hO20 (ne1P ap_FpA_b7)
  replace hG := hG.only hO20 (ne1P ap_FpG_b7)
  replace hF := hF.loc hO20 (.inr g_b7)
  exact ⟨_, by omega, (j + 1), rfl, fr.sub ⟨rfl, rfl, rfl, rfl, rfl, rfl, rfl, rfl, rfl, trivial⟩, hF, hB, hL, hA, hG, B10, by omega⟩
 ·have hc18 := of_decide_eq_false hc18
  refine Zex ?_
  refine Zxt ?_
  refine Zxt ?_
  refine Zxx ?_
  refine Znx ?_
  refine Zsr ?_
  refine Zf fo39_1 ?_
  refine Zs1 (cs' := lnE.arr { { ((getN L (addr / 16)).getD ln0) with bs := wrB ((getN L (addr / 16)).getD ln0).bs (addr % 16).toNat value j } with state := 3 }) sz36 B10 (by rw [lnE.size]; decide) (ln_setstate _ _) fun w21 hO22 hBq => ?_
  replace B10 := hBq
  clear hBq
  refine Znn ?_
  refine Zsq ?_
  obtain rfl : j = width.toNat := by omega
  replace B10 : Blk w21 b7 39 (lnE.arr (wrLn ((getN L (addr / 16)).getD ln0) addr width value)) := B10
  have hpe := put_there (n := n) (ways := ways) hwx (wrLn ((getN L (addr / 16)).getD ln0) addr width value) rfl rfl
  have hxw := (wrLn ((getN L (addr / 16)).getD ln0) addr width value).hn
  refine ZhT (n := 6) 6 (fun w => Blk w b 83 #[.int .i64 id, .pointer (some ⟨lb, 0, none⟩), pa, pg] ∧ Blk w b7 39 (lnE.arr (wrLn ((getN L (addr / 16)).getD ln0) addr width value)) ∧ True) ?_
  intro w23 hN24
  replace hB := (hB.only hO22 ne_b_b7).new hN24
  replace B10 := B10.new hN24
  have hS9 := And.intro hB (And.intro B10 trivial)
  refine Zhm 0 hS9 ?_
  refine Zhc 1 hS9 ?_
  refine Zhf 2 fo83_1 hS9 ?_
  refine Zhl 3 pl79 hS9 (fun _ ⟨hB, _⟩ => (hB.cell 1 rfl)) ?_
  refine ZhE 4 lnE ag39 hS9 (fun _ ⟨_, B10, _⟩ => (B10.rangeE lnE)) ?_
  refine Zh1 5 ?_
  replace hL := (hL.only hO22 (ne1P ap_FpL_b7)).new hN24
  refine Zk cf56 (put_c (wrLn ((getN L (addr / 16)).getD ln0) addr width value) hL) ?_
  rintro v w28 ⟨rfl, Fp25, H26, hN29, mv27⟩
  have ap_Fp25_b : ¬ Fp25 b := moved_apartP mv27 ap_FpL_b hB.lt
  replace hA := (hA.only hO22 (ne1P ap_FpA_b7)).new hN24
  have ap2_Fp25_FpA : ∀ k, Fp25 k → FpA k → False := moved_apart2P mv27 ap2_FpL_FpA fun _ hg => hA.lt hg
  replace hG := (hG.only hO22 (ne1P ap_FpG_b7)).new hN24
  have ap2_Fp25_FpG : ∀ k, Fp25 k → FpG k → False := moved_apart2P mv27 ap2_FpL_FpG fun _ hg => hG.lt hg
  replace hF := (hF.loc hO22 (.inr g_b7)).trNew hN24
  have gA_Fp25 := gA_movedP hF mv27 gA_FpL
  clear hL
  intro a fr
  rw [hpe] at fr
  revert a
  replace hB := hB.only hN29 ap_FpL_b
  replace B10 := B10.only hN29 ap_FpL_b7
  refine Zhb ⟨hB, B10, trivial⟩ ?_
  refine Zhn ?_
  refine Ztl ?_
  refine Za ?_
  refine Znn ?_
  refine Zrt ?_
  refine Zre rfl [_] ⟨rfl, trivial⟩ ?_
  replace hA := hA.only hN29 (fun g h1 h2 => (symP ap2_FpL_FpA) g h1 h2)
  replace hG := hG.only hN29 (fun g h1 h2 => (symP ap2_FpL_FpG) g h1 h2)
  replace hF := hF.locP hN29 gA_FpL
  exact ⟨_, rfl, wr_ok (show writeF ⟨id, n, ways, L, ask, giv⟩ addr width value = (_, _) by unfold writeF; rw [if_neg (by rw [hrt]; decide), if_neg (by rw [hwt]; decide)]) (fun k => k = b ∨ Fp25 k ∨ FpA k ∨ FpG k) ⟨lb, Fp25, _, _, FpA, FpG, hB, H26, hA, hG, ⟨ap_Fp25_b, ap_FpA_b, ap_FpG_b, ap2_Fp25_FpA, ap2_Fp25_FpG, ap2_FpA_FpG, fun _ => Iff.rfl⟩⟩ hF (fun g hg => hg.elim (fun e => by rw [e]; exact .inl ((hP.foot b).2 (.inl rfl))) fun h => h.elim (gA_Fp25 g) fun h => h.elim (gA_FpA g) (gA_FpG g))⟩
theorem write_c (addr : Int) (ha : 0 ≤ addr ∧ addr < 4294967296) (width : Int) {w : World} {Fp : Nat → Prop} {b : Nat} {id : Int} {n : Nat} {ways : Int} {L : List Ln} {ask : Option (Int × Bool)} {giv : Option Ln} (H : CacheAt w Fp b ⟨id, n, ways, L, ask, giv⟩) (value : Int) : Calls Try.prog 15 #[.pointer (some ⟨b, 0, none⟩), .int .u32 addr, .int .i64 width, .int .u32 value] w (Ret fun v w' => WriteR w Fp b (writeF ⟨id, n, ways, L, ask, giv⟩ addr width value) v w') := by
  cases hr : rightA addr width with
  | false => exact write_a addr ha width H value hr
  | true => cases hw : writesB (stateOf L (addr / 16)) with
    | false => exact write_m addr ha width H value hr hw
    | true => exact write_y addr ha width H value hr hw
end Go.Proofs.Ytflnlmibkbojcaa
namespace Go.Proofs.Ytflnlmibkbojcaa
open Go.RowKit
section
variable {n : Nat} {ways : Int} {L : List Ln} {num k : Int} {x : Ln}
theorem mem_of_get (h : getN L num = some x) : x ∈ L := List.mem_of_find?_eq_some h
theorem drop_lt {l : List Ln} (h : ∃ y ∈ l, y.num = num) : (dropL l num).length < l.length := by
  unfold dropL
  induction l with
  | nil => obtain ⟨y, hy, _⟩ := h; cases hy
  | cons z r ih =>
    by_cases hz : z.num = num
    · rw [List.filter_cons_of_neg (by simp [isNum, hz])]
      have := List.length_filter_le (fun x => !isNum num x) r
      simp only [List.length_cons]
      omega
    · rw [List.filter_cons_of_pos (by simp [isNum, hz])]
      obtain ⟨y, hy, he⟩ := h
      rcases List.mem_cons.1 hy with rfl | hy
      · exact absurd he hz
      · have := ih ⟨y, hy, he⟩
        simp only [List.length_cons]
        omega
theorem get_drop : getN (dropL L k) num = if num = k then none else getN L num := by
  unfold getN dropL
  induction L with
  | nil => simp
  | cons z r ih =>
    by_cases hz : z.num = k
    · rw [List.filter_cons_of_neg (by simp [isNum, hz]), ih]
      by_cases hn : num = k
      · simp [hn]
      · have : isNum num z = false := by simp [isNum, hz]; exact fun e => hn e.symm
        simp [hn, List.find?, this]
    · rw [List.filter_cons_of_pos (by simp [isNum, hz])]
      by_cases hn : num = k
      · have : isNum num z = false := by simp [isNum, hn, hz]
        simp only [List.find?, this, ih]
        try simp [hn]
      · simp only [List.find?, ih, if_neg hn]
theorem get_repl (h : getN L x.num ≠ none) : getN (repl x L) num = if num = x.num then some x else getN L num := by
  unfold getN at *
  induction L with
  | nil => simp at h
  | cons z r ih =>
    by_cases hz : z.num = x.num
    · simp only [repl, if_pos hz]
      by_cases hn : num = x.num
      · simp [hn, List.find?, isNum]
      · have h1 : isNum num x = false := by simp [isNum]; exact fun e => hn e.symm
        have h2 : isNum num z = false := by simp [isNum, hz]; exact fun e => hn e.symm
        simp [hn, List.find?, h1, h2]
    · simp only [repl, if_neg hz]
      have h3 : isNum x.num z = false := by simp [isNum, hz]
      rw [List.find?, h3] at h
      by_cases hn : num = x.num
      · have : isNum num z = false := by simp [isNum, hn, hz]
        simp only [List.find?, this, ih h]
      · simp only [List.find?, ih h, if_neg hn]
theorem mem_ofs (h : x ∈ L) : x ∈ ofs n L (si n x.num) := List.mem_filter.2 ⟨h, by simp [inSet]⟩
theorem HasRoom.drop (hn : 0 < n) (hf : Fits n ways L) (h : HasRoom n ways L num) (k : Int) : HasRoom n ways (dropL L k) num := by
  intro h1
  rw [ofs_drop]
  have h2 := dropL_le (ofs n L (si n num)) k
  have h3 := hf _ (si_lt (num := num) hn)
  cases hg : getN L num with
  | none => have := h hg; omega
  | some y =>
    rw [get_drop, hg] at h1
    split at h1
    · rename_i e
      subst e
      have hy := get_num hg
      have := drop_lt (num := num) (l := ofs n L (si n num)) ⟨y, by have := mem_ofs (n := n) (mem_of_get hg); rwa [hy] at this, hy⟩
      omega
    · cases h1
theorem putL_there (h : getN L x.num ≠ none) (he : putE n ways L x = 0) : putL n ways L x = repl x L := by
  unfold putL
  rw [if_pos he, if_neg h]
theorem HasRoom.repl (h : HasRoom n ways L num) (hx : getN L x.num ≠ none) : HasRoom n ways (repl x L) num := by
  intro h1
  rw [get_repl hx] at h1
  split at h1
  · cases h1
  · by_cases e : si n num = si n x.num
    · rw [e, ofs_repl_same, repl_len, ← e]; exact h h1
    · rw [ofs_repl_other _ _ e]; exact h h1
theorem room_vic (h : vicL n ways L num k = none) : HasRoom n ways L num := by
  intro h1
  unfold vicL at h
  split at h
  · cases h
  · rename_i h2
    have : ¬ ways ≤ ((ofs n L (si n num)).length : Int) := fun h3 => h2 ⟨h1, h3⟩
    omega
theorem vic_mem (hw : 1 ≤ ways) (h : vicL n ways L num k = some x) : x ∈ ofs n L (si n num) ∧ getN L num = none ∧ ways ≤ ((ofs n L (si n num)).length : Int) := by
  unfold vicL at h
  split at h
  · rename_i h2
    cases h
    refine ⟨?_, h2⟩
    have hl : 0 < (ofs n L (si n num)).length := by omega
    have hp := pickAt_lt k _ hl
    simp [List.getD, hp]
  · cases h
theorem room_out (hn : 0 < n) (hw : 1 ≤ ways) (hf : Fits n ways L) (h : vicL n ways L num k = some x) : HasRoom n ways (dropL L x.num) num := by
  intro _
  obtain ⟨h1, h2, h3⟩ := vic_mem hw h
  rw [ofs_drop]
  have h4 := drop_lt (num := x.num) (l := ofs n L (si n num)) ⟨x, h1, rfl⟩
  have h5 := hf _ (si_lt (num := num) hn)
  omega
end
section
variable {d : CD} (hb : 0 < d.n ∧ d.n ≤ 64 ∧ 1 ≤ d.ways ∧ d.ways ≤ 8) (hf : Fits d.n d.ways d.L) (hr : RoomOk d)
include hf hr
theorem RoomOk.drop (hb : 0 < d.n ∧ d.n ≤ 64 ∧ 1 ≤ d.ways ∧ d.ways ≤ 8) (k : Int) (g : Option Ln) : RoomOk { d with L := dropL d.L k, giv := g } := fun l wr h => (hr l wr h).drop hb.1 hf k
include hb
omit hb hf in
theorem write_room (addr width v : Int) : RoomOk (writeF d addr width v).1 := by
  unfold writeF
  split
  · exact hr
  · split
    · exact hr
    · rename_i h
      have h : writesB ((getN d.L (addr / 16)).getD ln0).state = true := by simpa [stateOf] using h
      intro l wr hl
      have hx : getN d.L (wrLn ((getN d.L (addr / 16)).getD ln0) addr width v).num ≠ none := by
        obtain ⟨y, hy, hd⟩ := w_there h
        show getN d.L ((getN d.L (addr / 16)).getD ln0).num ≠ none
        rw [hd, get_num hy, hy]
        simp
      show HasRoom d.n d.ways (putL d.n d.ways d.L _) l
      rw [putL_there hx (put_there h _ rfl rfl)]
      exact (hr l wr hl).repl hx
theorem ask_room (line : Int) (hln : 0 ≤ line ∧ line < 4294967296) (wr : Bool) (pick : Int) : RoomOk (askF d line hln wr pick).1 := by
  unfold askF
  split
  · exact hr
  · split
    · exact hr
    · split
      · rename_i hv
        intro l w' h
        cases h
        exact room_vic hv
      · rename_i x hv
        split
        · intro l w' h
          cases h
          show HasRoom (outF d x).1.n (outF d x).1.ways (outF d x).1.L line
          rename_i ho
          unfold outF at ho ⊢
          split
          · exact room_out hb.1 hb.2.2.1 hf hv
          · split
            · rename_i h1 _ _ h2
              rw [if_neg h1] at ho
              simp [h2] at ho
            · exact room_out hb.1 hb.2.2.1 hf hv
        · exact hr
theorem back_room (m : Msg) : RoomOk (takeF.backF d m).1 := by
  unfold takeF.backF
  split
  · rename_i h
    have h : writesB ((getN d.L m.line).getD ln0).state = true := h
    obtain ⟨y, hy, hd⟩ := w_there h
    rw [hd]
    by_cases hk : m.kind = 4
    · simp only [hk, if_true]
      intro l w' hl
      have hx : getN d.L ({ y with state := 1 } : Ln).num ≠ none := by
        show getN d.L y.num ≠ none
        rw [get_num hy, hy]
        simp
      have hp : putE d.n d.ways d.L { y with state := 1 } = 0 := by
        unfold putE
        rw [if_neg (by simp [okS]), if_neg (fun hh => hx hh.1)]
      show HasRoom d.n d.ways (putL d.n d.ways d.L { y with state := 1 }) l
      rw [putL_there hx hp]
      exact (hr l w' hl).repl hx
    · simp only [if_neg hk]
      exact RoomOk.drop hf hr hb y.num d.giv
  · exact hr
theorem take_room (m : Msg) : RoomOk (takeF d m).1 := by
  unfold takeF
  split
  · exact hr
  split
  · split
    · intro l w' h
      cases h
    · exact hr
  split
  · split
    · split
      · exact hr
      · exact back_room hb hf hr m
    · exact back_room hb hf hr m
  split
  · split
    · exact hr
    · exact RoomOk.drop hf hr hb m.line d.giv
  split
  · exact fun l w' h => hr l w' h
  · exact hr
omit hb hf in
theorem data_room (m : Msg) (h : dataOk d m = true) : putE d.n d.ways d.L (dataLn m) = 0 := by
  unfold dataOk at h
  split at h
  · rename_i l wr ha
    simp only [Bool.and_eq_true, decide_eq_true_eq] at h
    have h1 := hr l wr ha
    rw [h.1] at h1
    have ho : ¬ okS (dataLn m) = false := by
      simp only [okS, dataLn, mkL]
      split <;> decide
    have h2 : (dataLn m).num = m.line := rfl
    unfold putE
    rw [if_neg ho, if_neg]
    rintro ⟨h3, h4⟩
    rw [h2] at h3 h4
    have := h1 h3
    omega
  · cases h
omit hf hr hb in
theorem new_room (id : Int) (n : Nat) (ways : Int) : RoomOk ⟨id, n, ways, [], none, none⟩ := fun l w' h => by cases h
end
end Go.Proofs.Ytflnlmibkbojcaa
namespace Go.Proofs.Ytflnlmibkbojcaa
open Go.RowKit
structure RC where
  id : Int
  n : Int
  ways : Int
  A : Option Addr
  len : Nat
  cap : Nat
  ak : Bool
  al : Int
  aw : Bool
  gv : Bool
  gx : Ln
  deriving DecidableEq
def RC.cells (m : RC) : List Value := .int .i64 m.id :: .int .i64 m.n :: .int .i64 m.ways :: .slice m.A m.len m.cap :: .bool m.ak :: .int .u32 m.al :: .bool m.aw :: .bool m.gv :: m.gx.cells
theorem RC.len_ (m : RC) : m.cells.length = 26 := by simp [RC.cells, m.gx.len]
end Go.Proofs.Ytflnlmibkbojcaa
namespace Go.Proofs.Ytflnlmibkbojcaa
open Go.RowKit
def StOk (L : List Ln) : Prop := ∀ x ∈ L, 1 ≤ x.state ∧ x.state ≤ 3
section
variable {n : Nat} {ways : Int} {L : List Ln} {x : Ln}
theorem StOk.nil : StOk [] := fun x h => by cases h
theorem StOk.drop (h : StOk L) (k : Int) : StOk (dropL L k) := fun x hx => h x (List.mem_filter.1 hx).1
theorem StOk.putL (h : StOk L) (x : Ln) : StOk (putL n ways L x) := by
  unfold Go.Proofs.Ytflnlmibkbojcaa.putL
  split
  · rename_i he
    have hx : 1 ≤ x.state ∧ x.state ≤ 3 := by
      unfold putE at he
      split at he
      · omega
      · rename_i h2
        simp [okS] at h2
        omega
    split
    · intro y hy
      rcases List.mem_append.1 hy with hy | hy
      · exact h y hy
      · rw [List.mem_singleton] at hy
        subst hy
        exact hx
    · intro y hy
      rcases mem_repl hy with hy | rfl
      · exact h y hy
      · exact hx
  · exact h
end
structure DOk (d : CD) : Prop where
  id : 0 ≤ d.id ∧ d.id < 4
  bd : 0 < d.n ∧ d.n ≤ 64 ∧ 1 ≤ d.ways ∧ d.ways ≤ 8
  uniq : Uniq d.L
  fits : Fits d.n d.ways d.L
  room : RoomOk d
  st : StOk d.L
end Go.Proofs.Ytflnlmibkbojcaa
namespace Go.Proofs.Ytflnlmibkbojcaa
open Go.RowKit
section
variable {d : CD}
theorem DOk.new {id : Int} {n : Nat} {ways : Int} (hid : 0 ≤ id ∧ id < 4) (hb : 0 < n ∧ n ≤ 64 ∧ 1 ≤ ways ∧ ways ≤ 8) : DOk ⟨id, n, ways, [], none, none⟩ := ⟨hid, hb, List.Pairwise.nil, Fits.nil (by show 0 ≤ ways; omega), new_room id n ways, StOk.nil⟩
theorem DOk.drop (h : DOk d) (k : Int) (g : Option Ln) : DOk { d with L := dropL d.L k, giv := g } := ⟨h.id, h.bd, h.uniq.drop k, h.fits.drop k, RoomOk.drop h.fits h.room h.bd k g, h.st.drop k⟩
theorem DOk.out (h : DOk d) (x : Ln) : DOk (outF d x).1 := by
  unfold outF
  split
  · exact h.drop x.num d.giv
  · split
    · exact h
    · exact h.drop x.num (some x)
theorem DOk.evict (h : DOk d) (pick : Int) : DOk (evictF d pick).1 := by
  unfold evictF
  split
  · exact h
  · exact h.out _
theorem DOk.write (h : DOk d) (addr width v : Int) : DOk (writeF d addr width v).1 := by
  have hr := write_room h.room addr width v
  revert hr
  unfold writeF
  split
  · exact fun _ => h
  · split
    · exact fun _ => h
    · exact fun hr => ⟨h.id, h.bd, h.uniq.putL, h.fits.putL _, hr, h.st.putL _⟩
theorem DOk.ask (h : DOk d) (line : Int) (hl : 0 ≤ line ∧ line < 4294967296) (wr : Bool) (pick : Int) : DOk (askF d line hl wr pick).1 := by
  have hr := ask_room h.bd h.fits h.room line hl wr pick
  revert hr
  unfold askF
  split
  · exact fun _ => h
  · split
    · exact fun _ => h
    · split
      · exact fun hr => ⟨h.id, h.bd, h.uniq, h.fits, hr, h.st⟩
      · split
        · intro hr
          have ho := h.out ‹Ln›
          exact ⟨ho.id, ho.bd, ho.uniq, ho.fits, hr, ho.st⟩
        · exact fun _ => h
theorem DOk.back (h : DOk d) (m : Msg) : DOk (takeF.backF d m).1 := by
  have hr := back_room h.bd h.fits h.room m
  revert hr
  unfold takeF.backF
  split
  · by_cases k : m.kind = 4
    · simp only [k, if_true]
      exact fun hr => ⟨h.id, h.bd, h.uniq.putL, h.fits.putL _, hr, h.st.putL _⟩
    · simp only [if_neg k]
      exact fun _ => h.drop _ d.giv
  · exact fun _ => h
theorem DOk.take (h : DOk d) (m : Msg) : DOk (takeF d m).1 := by
  have hr := take_room h.bd h.fits h.room m
  revert hr
  unfold takeF
  split
  · exact fun _ => h
  split
  · split
    · exact fun hr => ⟨h.id, h.bd, h.uniq.putL, h.fits.putL _, hr, h.st.putL _⟩
    · exact fun _ => h
  split
  · split
    · split
      · exact fun _ => h
      · exact fun _ => h.back m
    · exact fun _ => h.back m
  split
  · split
    · exact fun _ => h
    · exact fun _ => h.drop m.line d.giv
  split
  · exact fun hr => ⟨h.id, h.bd, h.uniq, h.fits, hr, h.st⟩
  · exact fun _ => h
end
end Go.Proofs.Ytflnlmibkbojcaa
namespace Go.Proofs.Ytflnlmibkbojcaa
open Go.RowKit
def CacAt (w : World) (Fp : Nat → Prop) (b : Nat) (d : CD) : Prop := CacheAt w Fp b d ∧ DOk d
section
variable {w w' : World} {Fp T : Nat → Prop} {b D : Nat} {d : CD} {ask : Option (Int × Bool)} {giv : Option Ln} {p : Value}
theorem CacheAt.cells (h : CacheAt w Fp b d) {g : Nat} (hg : Fp g) : ∃ o : Obj, w.heap[g]? = some o ∧ o.isCells = true := by
  obtain ⟨lb, FpL, pa, pg, FpA, FpG, hB, hL, hA, hG, hP⟩ := h
  rcases (hP.foot g).1 hg with rfl | hg | hg | hg
  · exact hB.cells
  · exact hL.cells hg
  · exact hA.cells hg
  · exact hG.cells hg
theorem CacAt.only (h : CacAt w Fp b d) (k : Only T w w') (hs : ∀ g, Fp g → ¬ T g) : CacAt w' Fp b d := ⟨h.1.only k hs, h.2⟩
theorem CacAt.new (h : CacAt w Fp b d) (k : New w w') : CacAt w' Fp b d := ⟨h.1.new k, h.2⟩
theorem CacAt.lt (h : CacAt w Fp b d) {g : Nat} (hg : Fp g) : g < w.heap.size := h.1.lt hg
theorem CacAt.apart (h : CacAt w Fp b d) {c : Nat} (hc : w.heap.size ≤ c) : ¬ Fp c := h.1.apart hc
theorem CacAt.turn {B : Nat} (h : CacAt w Fp b d) (k : Turn B w w') : CacAt w' Fp b d := ⟨h.1.turn k, h.2⟩
theorem CacAt.cells (h : CacAt w Fp b d) {g : Nat} (hg : Fp g) : ∃ o : Obj, w.heap[g]? = some o ∧ o.isCells = true := h.1.cells hg
theorem CacAt.mark (h : CacAt w Fp b d) (k : MarkAt w D) : ¬ Fp D := fun hi => by
  obtain ⟨o, ho, hc⟩ := h.cells hi
  rw [show w.heap[D]? = _ from k] at ho
  cases ho
  cases hc
end
theorem own_tag {P : Program} {α : Type} [DecidableEq α] {E : Enc P α} {w : World} {A : Option Addr} {cap : Nat} {l : List α} (h : Own E w A cap l) {g : Nat} (hg : inA A g) : ∃ cs, Blk w g E.T cs := by
  obtain ⟨o, rfl⟩ := hg
  obtain ⟨_, _, ⟨h3, _⟩ | ⟨g', o', cs, h3, hB, _⟩⟩ := h
  · cases h3
  · simp only [Option.some.injEq, Addr.mk.injEq] at h3
    rw [h3.1]
    exact ⟨cs, hB⟩
theorem CacheAt.tag {w : World} {Fp : Nat → Prop} {b : Nat} {d : CD} (h : CacheAt w Fp b d) {g : Nat} (hg : Fp g) : ∃ t cs, t ≠ 35 ∧ Blk w g t cs := by
  obtain ⟨lb, FpL, pa, pg, FpA, FpG, hB, hL, hA, hG, hP⟩ := h
  rcases (hP.foot g).1 hg with rfl | hg | hg | hg
  · exact ⟨_, _, by decide, hB⟩
  · obtain ⟨S, FpR, rs, h1, h2, h3, h4⟩ := hL
    rcases (h4.foot g).1 hg with rfl | rfl | hg
    · exact ⟨_, _, by decide, h1⟩
    · exact ⟨_, _, by decide, h2⟩
    · obtain ⟨i, hi, hi2⟩ := (h3.foot g).1 hg
      obtain ⟨cs, hc⟩ := own_tag (h3.own hi) hi2
      exact ⟨_, cs, by decide, hc⟩
  · rcases ha : d.ask with _ | ⟨l, wr⟩
    · rw [ha] at hA
      exact absurd hg (hA.2 g)
    · rw [ha] at hA
      obtain ⟨ba, h1, h2, h3, h4⟩ := hA
      rw [(h3 g).1 hg]
      exact ⟨_, _, by decide, h2⟩
  · rcases ha : d.giv with _ | x
    · rw [ha] at hG
      exact absurd hg (hG.2 g)
    · rw [ha] at hG
      obtain ⟨bg, h1, h2, h3⟩ := hG
      rw [(h3 g).1 hg]
      exact ⟨_, _, by decide, h2⟩
theorem CacAt.msg_ap {w : World} {Fp : Nat → Prop} {b : Nat} {d : CD} (h : CacAt w Fp b d) {A : Option Addr} {cap : Nat} {l : List Msg} (hO : Own msgE w A cap l) : ∀ k, Fp k → inA A k → False := fun k h1 h2 => by
  obtain ⟨t, cs, ht, hB⟩ := h.1.tag h1
  obtain ⟨cs2, hB2⟩ := own_tag hO h2
  have := hB.symm.trans hB2
  simp only [Option.some.injEq, Obj.cells.injEq] at this
  exact ht this.2.1
def Moved (w : World) (Fp : Nat → Prop) (b : Nat) (d : CD) (w' : World) : Prop := ∃ Fp', CacAt w' Fp' b d ∧ Only Fp w w' ∧ ∀ g, Fp' g → Fp g ∨ w.heap.size ≤ g
def TakeU (w : World) (Fp : Nat → Prop) (b : Nat) (r : CD × List Msg × Int) (v : Value) (w' : World) : Prop :=
  ∃ A' cap', v = .tuple #[.slice A' r.2.1.length cap', .int .i64 r.2.2] ∧ Own msgE w' A' cap' r.2.1 ∧ (∀ g, inA A' g → w.heap.size ≤ g) ∧ ∃ Fp', CacAt w' Fp' b r.1 ∧ Only Fp w w' ∧ ∀ g, Fp' g → Fp g ∨ w.heap.size ≤ g
section
variable {w : World} {Fp : Nat → Prop} {b : Nat} {d : CD}
theorem u_ask (H : CacAt w Fp b d) (line : Int) (hln : 0 ≤ line ∧ line < 4294967296) (wr : Bool) (pick : Int) : Calls Try.prog 13 #[.pointer (some ⟨b, 0, none⟩), .int .u32 line, .bool wr, .int .i64 pick] w (Ret fun v w' => TakeU w Fp b (askF d line hln wr pick) v w') := by
  obtain ⟨id, n, ways, L, ask, giv⟩ := d
  refine (ask_c H.1 line hln pick wr).mono ?_
  rintro e w' ⟨v, rfl, A', cap', h1, h2, h3, Fp', h4, h5, h6⟩
  exact ⟨_, rfl, A', cap', h1, h2, h3, Fp', ⟨h4, H.2.ask line hln wr pick⟩, h5, h6⟩
theorem u_take (H : CacAt w Fp b d) (m : Msg) : Calls Try.prog 14 #[.pointer (some ⟨b, 0, none⟩), .agg (msgE.arr m)] w (Ret fun v w' => TakeU w Fp b (takeF d m) v w') := by
  obtain ⟨id, n, ways, L, ask, giv⟩ := d
  refine (take_c H.1 m H.2.id (fun h => data_room H.2.room m h)).mono ?_
  rintro e w' ⟨v, rfl, A', cap', h1, h2, h3, Fp', h4, h5, h6⟩
  exact ⟨_, rfl, A', cap', h1, h2, h3, Fp', ⟨h4, H.2.take m⟩, h5, h6⟩
def EvictU (w : World) (Fp : Nat → Prop) (b : Nat) (r : CD × List Msg) (v : Value) (w' : World) : Prop :=
  ∃ A' cap', v = .slice A' r.2.length cap' ∧ Own msgE w' A' cap' r.2 ∧ (∀ g, inA A' g → w.heap.size ≤ g) ∧ ∃ Fp', CacAt w' Fp' b r.1 ∧ Only Fp w w' ∧ ∀ g, Fp' g → Fp g ∨ w.heap.size ≤ g
theorem u_evict (H : CacAt w Fp b d) (pick : Int) : Calls Try.prog 25 #[.pointer (some ⟨b, 0, none⟩), .int .i64 pick] w (Ret fun v w' => EvictU w Fp b (evictF d pick) v w') := by
  obtain ⟨id, n, ways, L, ask, giv⟩ := d
  refine (evict_c H.1 pick).mono ?_
  rintro e w' ⟨v, rfl, A', cap', h1, h2, h3, Fp', h4, h5, h6⟩
  exact ⟨_, rfl, A', cap', h1, h2, h3, Fp', ⟨h4, H.2.evict pick⟩, h5, h6⟩
def WriteU (w : World) (Fp : Nat → Prop) (b : Nat) (r : CD × Int) (v : Value) (w' : World) : Prop :=
  v = .int .i64 r.2 ∧ ∃ Fp', CacAt w' Fp' b r.1 ∧ Only Fp w w' ∧ ∀ g, Fp' g → Fp g ∨ w.heap.size ≤ g
theorem u_write (H : CacAt w Fp b d) (addr : Int) (ha : 0 ≤ addr ∧ addr < 4294967296) (width value : Int) : Calls Try.prog 15 #[.pointer (some ⟨b, 0, none⟩), .int .u32 addr, .int .i64 width, .int .u32 value] w (Ret fun v w' => WriteU w Fp b (writeF d addr width value) v w') := by
  obtain ⟨id, n, ways, L, ask, giv⟩ := d
  refine (write_c addr ha width H.1 value).mono ?_
  rintro e w' ⟨v, rfl, h1, Fp', h4, h5, h6⟩
  exact ⟨_, rfl, h1, Fp', ⟨h4, H.2.write addr width value⟩, h5, h6⟩
theorem u_read (H : CacAt w Fp b d) (addr : Int) (ha : 0 ≤ addr ∧ addr < 4294967296) (width : Int) : Calls Try.prog 17 #[.pointer (some ⟨b, 0, none⟩), .int .u32 addr, .int .i64 width] w (Ret fun v w' => v = .tuple #[.int .u32 (readF d.L addr width).1, .int .i64 (readF d.L addr width).2] ∧ New w w') := by
  obtain ⟨lb, FpL, pa, pg, FpA, FpG, hB, hL, hA, hG, hP⟩ := H.1
  exact read_c addr ha width hB hL hP.lb
theorem u_len (H : DOk d) : d.L.length ≤ 512 ∧ (allL d.n d.L).length ≤ 512 := by
  have h1 := len_most H.bd H.fits
  have h2 := allL_len H.bd.1 d.L
  omega
theorem u_lines (H : CacAt w Fp b d) : Calls Try.prog 30 #[.pointer (some ⟨b, 0, none⟩)] w (Ret fun v w' => ∃ A' cap', v = .slice A' (allL d.n d.L).length cap' ∧ Own lnE w' A' cap' (allL d.n d.L) ∧ (∀ g, inA A' g → w.heap.size ≤ g) ∧ New w w') := by
  have hl := u_len H.2
  obtain ⟨lb, FpL, pa, pg, FpA, FpG, hB, hL, hA, hG, hP⟩ := H.1
  exact clines_c hB hL hP.lb (by omega)
theorem u_asked (H : CacAt w Fp b d) : Calls Try.prog 32 #[.pointer (some ⟨b, 0, none⟩)] w (Ret fun v w' => v = .tuple #[.int .u32 (d.ask.getD (0, false)).1, .bool (d.ask.getD (0, false)).2, .bool d.ask.isSome] ∧ New w w') := by
  obtain ⟨id, n, ways, L, ask, giv⟩ := d
  rcases ask with _ | ⟨al, aw⟩
  · exact asked_none H.1
  · exact asked_some H.1
theorem u_given (H : CacAt w Fp b d) : Calls Try.prog 33 #[.pointer (some ⟨b, 0, none⟩)] w (Ret fun v w' => v = .tuple #[.agg (lnE.arr (d.giv.getD ln0)), .bool d.giv.isSome] ∧ New w w') := by
  obtain ⟨id, n, ways, L, ask, giv⟩ := d
  rcases giv with _ | gx
  · exact given_none H.1
  · exact given_some H.1
theorem u_copy (H : CacAt w Fp b d) : Calls Try.prog 29 #[.pointer (some ⟨b, 0, none⟩)] w (Ret fun v w' => ∃ b' Fp', v = .pointer (some ⟨b', 0, none⟩) ∧ CacAt w' Fp' b' d ∧ (∀ g, Fp' g → w.heap.size ≤ g) ∧ New w w') := by
  obtain ⟨id, n, ways, L, ask, giv⟩ := d
  refine (ccopy_c H.1).mono ?_
  rintro e w' ⟨v, rfl, b', Fp', h1, h2, h3, h4⟩
  exact ⟨_, rfl, b', Fp', h1, ⟨h2, H.2⟩, h3, h4⟩
theorem u_new (id : Int) (n : Nat) (ways : Int) (hid : 0 ≤ id ∧ id < 4) (hr : rightB ((n : Nat) : Int) ways = true) (w : World) : Calls Try.prog 12 #[.int .i64 id, .int .i64 ((n : Nat) : Int), .int .i64 ways] w (Ret fun v w' => ∃ b Fp, v = .tuple #[.pointer (some ⟨b, 0, none⟩), .int .i64 0] ∧ CacAt w' Fp b ⟨id, n, ways, [], none, none⟩ ∧ (∀ g, Fp g → w.heap.size ≤ g) ∧ New w w') := by
  refine (cnew_yes id n ways (by omega) (by omega) hr w).mono ?_
  rintro e w' ⟨v, rfl, b, Fp, h1, h2, h3, h4⟩
  exact ⟨_, rfl, b, Fp, h1, ⟨h2, DOk.new hid (right_bd hr)⟩, h3, h4⟩
theorem u_new_no (id sets ways : Int) (h : ¬ (0 ≤ id ∧ id < 4) ∨ rightB sets ways = false) (w : World) : Calls Try.prog 12 #[.int .i64 id, .int .i64 sets, .int .i64 ways] w (Ret fun v w' => v = .tuple #[.pointer none, .int .i64 2] ∧ New w w') := by
  cases hr : rightB sets ways with
  | false => exact cnew_no id sets ways hr w
  | true =>
    have h1 : ¬ (0 ≤ id ∧ id < 4) := by
      rcases h with h | h
      · exact h
      · rw [hr] at h; cases h
    have h2 := right_yes hr
    obtain ⟨n, rfl⟩ : ∃ n : Nat, sets = (n : Int) := ⟨sets.toNat, by omega⟩
    by_cases h3 : id < 0
    · exact cnew_lo id n ways h3 hr w
    · exact cnew_hi id n ways h3 (by omega) hr w
variable {A : Option Addr} {cap : Nat}
end
end Go.Proofs.Ytflnlmibkbojcaa
namespace Go.Proofs.Ytflnlmibkbojcaa
open Go.RowKit
set_option maxRecDepth 100000 in
set_option maxHeartbeats 4000000 in
theorem rsame_c {w : World} {A B : Option Addr} {ca cb : Nat} {la lb : List Ln} (hV : View lnE w A ca la) (hW : View lnE w B cb lb) : Calls Try.prog 31 #[.slice A la.length ca, .slice B lb.length cb] w (Ret fun v w' => v = .bool (decide (la = lb)) ∧ New w w') := by
 have hVl := hV.len
 have hWl := hW.len
 unfold maxLen at hVl hWl
 have hF := Only.refl (fun _ => False) w
 refine Zen 26 Try.func31 ?_
 refine Zsr ?_
 refine Za ?_
 refine Znn ?_
 refine Zsq ?_
 refine Zsr ?_
 refine Zm ?_
 refine Zv _ (fun _ fr => x_len Try.underlying40 rfl (fr.ev rfl)) ?_
 refine Zm ?_
 refine Zv _ (fun _ fr => x_len Try.underlying40 rfl (fr.ev rfl)) ?_
 refine Zv _ (fun _ fr => x_neq rfl (fr.ev rfl) (fr.ev rfl) rfl) ?_
 refine Znn ?_
 refine Zcd (fun hc1 => ?_) (fun hc1 => ?_)
 ·have hc1 := of_decide_eq_true hc1
  refine Zsr ?_
  refine Za ?_
  refine Znn ?_
  refine Zrt ?_
  refine Zr1 ?_
  refine Zre rfl [_] ⟨rfl, trivial⟩ ?_
  exact ⟨_, rfl, congrArg Value.bool (decide_eq_false fun he => hc1 (by rw [he])).symm, hF⟩
 ·have hc1 := of_decide_eq_false hc1
  refine Zsk ?_
  refine Znx ?_
  refine Zsq ?_
  refine Zsr ?_
  refine Za ?_
  refine Znn ?_
  refine Zbl ?_
  intro a fr
  refine fx_loop (fun nM a wL => ∃ i : Nat, nM = la.length - i ∧ Fr (26, []) [(0, .slice A la.length ca), (1, .slice B lb.length cb), (5, .int .i64 ((i : Nat) : Int)), (4, .bool false)] a ∧ Only (fun _ => False) w wL ∧ View lnE wL A ca la ∧ View lnE wL B cb lb ∧ i ≤ la.length ∧ (∀ j, j < i → la.getD j ln0 = lb.getD j ln0)) (n0 := _) ⟨0, rfl, fr.sub ⟨rfl, rfl, rfl, rfl, trivial⟩, hF, hV, hW, by omega, (fun j hj => absurd hj (by omega))⟩ ?_
  clear fr a
  rintro n3 a w2 ⟨i, rfl, fr, hF, hV, hW, hi, hall⟩
  revert a
  refine Zsq ?_
  refine Zsr ?_
  refine Zm ?_
  refine Zm ?_
  refine Zv _ (fun _ fr => x_len Try.underlying40 rfl (fr.ev rfl)) ?_
  refine Zv _ (fun _ fr => x_lss rfl (fr.ev rfl) (fr.ev rfl) rfl) ?_
  refine Znn ?_
  refine Zcd (fun hc4 => ?_) (fun hc4 => ?_)
  ·have hc4 := of_decide_eq_true hc4
   refine Zsk ?_
   refine Znx ?_
   refine Zsq ?_
   refine Zbl ?_
   refine Zsq ?_
   refine Zhd (n := 9) (fun w => View lnE w A ca la ∧ View lnE w B cb lb ∧ True) ?_
   intro w5 hN6
   replace hV := hV.new hN6
   replace hW := hW.new hN6
   have hS9 := And.intro hV (And.intro hW trivial)
   refine Zhm 0 hS9 ?_
   refine Zhm 1 hS9 ?_
   obtain ⟨g7, o8, hA9⟩ := (hV).some_ (by omega)
   have hS9 := And.intro hV (And.intro hW trivial)
   refine Zht 2 rfl (.pointer (some ⟨g7, o8 + i * 18, none⟩)) hS9 (fun _ fr _ _ => x_indexV Try.underlying40 sz39 rfl (fr.ev rfl) hA9 (fr.ev rfl) (by omega) rfl) ?_
   refine ZhE 3 lnE ag39 hS9 (fun _ ⟨hV, _⟩ => ((hV).elem hA9 i ln0 (by omega))) ?_
   refine Zhm 4 hS9 ?_
   refine Zhm 5 hS9 ?_
   obtain ⟨g10, o11, hA12⟩ := (hW).some_ (by omega)
   have hS9 := And.intro hV (And.intro hW trivial)
   refine Zht 6 rfl (.pointer (some ⟨g10, o11 + i * 18, none⟩)) hS9 (fun _ fr _ _ => x_indexV Try.underlying40 sz39 rfl (fr.ev rfl) hA12 (fr.ev rfl) (by omega) rfl) ?_
   refine ZhE 7 lnE ag39 hS9 (fun _ ⟨_, hW, _⟩ => ((hW).elem hA12 i ln0 (by omega))) ?_
   refine Zht 8 rfl _ hS9 (fun _ fr _ _ => x_neE lnER rfl rfl (fr.ev rfl) (fr.ev rfl) rfl) ?_
   refine Zhn ?_
   refine Znx ?_
   refine Zcd (fun hc13 => ?_) (fun hc13 => ?_)
   ·refine Zsr ?_
    refine Za ?_
    refine Znn ?_
    refine Zrt ?_
    refine Zr2 ?_
    refine Zr1 ?_
    refine Zr1 ?_
    refine Zr2 ?_
    refine Zr1 ?_
    refine Zre rfl [_] ⟨rfl, trivial⟩ ?_
    replace hF := hF.trNew hN6
    exact ⟨_, rfl, congrArg Value.bool (decide_eq_false fun he => by rw [he] at hc13; simp at hc13).symm, hF⟩
   ·refine Zsk ?_
    refine Zb ?_
    refine Znx ?_
    refine Zrg ?_
    refine Zm ?_
    refine Zv _ (fun _ fr => x_add rfl (fr.ev rfl) rfl (i64w (r := ((i + 1 : Nat) : Int)) (by omega) (by omega))) ?_
    refine Za ?_
    intro a fr
    refine wpList_nil ?_
    refine fx_next ?_
    replace hF := hF.trNew hN6
    exact ⟨_, by omega, (i + 1), rfl, fr.sub ⟨rfl, rfl, rfl, rfl, trivial⟩, hF, hV, hW, by omega, fun j hj => by rcases Nat.lt_succ_iff_lt_or_eq.1 hj with h | rfl; exact hall j h; simpa using hc13⟩
  ·have hc4 := of_decide_eq_false hc4
   refine Zex ?_
   refine Zxt ?_
   refine Zxt ?_
   refine Zxx ?_
   refine Znx ?_
   refine Zsr ?_
   refine Za ?_
   refine Znn ?_
   refine Zrt ?_
   refine Zre rfl [_] ⟨rfl, trivial⟩ ?_
   exact ⟨_, rfl, congrArg Value.bool (decide_eq_true (ext_getD ln0 (by omega) fun j hj => hall j (by omega))).symm, hF⟩
end Go.Proofs.Ytflnlmibkbojcaa
namespace Go.Proofs.Ytflnlmibkbojcaa
open Go.RowKit
structure Stp where
  kind : Int
  pick : Int
  width : Int
  line : Int
  addr : Int
  value : Int
  wr : Bool
  msg : Msg
  hl : 0 ≤ line ∧ line < 4294967296
  ha : 0 ≤ addr ∧ addr < 4294967296
  hv : 0 ≤ value ∧ value < 4294967296
  deriving DecidableEq
def Stp.cells (m : Stp) : List Value := .int .i64 m.kind :: .int .i64 m.pick :: .int .i64 m.width :: .int .u32 m.line :: .int .u32 m.addr :: .int .u32 m.value :: .bool m.wr :: m.msg.cells
def stpE : Enc Try.prog Stp where
  T := 45
  n := 27
  cells := Stp.cells
  len := fun m => by simp [Stp.cells, m.msg.len]
  one := fun m v hv => by
    simp only [Stp.cells, List.mem_cons] at hv
    rcases hv with rfl | rfl | rfl | rfl | rfl | rfl | rfl | hv
    iterate 7 rfl
    exact m.msg.one v hv
  pos := by decide
def stp0 : Stp := ⟨0, 0, 0, 0, 0, 0, false, msg0, by decide, by decide, by decide⟩
theorem stp_msgL (m : Stp) : ((stpE.cells m).drop 7).take 20 = msgE.cells m.msg := by
  show (m.cells.drop 7).take 20 = m.msg.cells
  simp only [Stp.cells, List.drop_succ_cons, List.drop_zero]
  exact List.take_of_length_le (by rw [m.msg.len]; omega)
theorem stp_msg (m : Stp) : ((stpE.arr m).toList.drop 7).take 20 = msgE.cells m.msg := by
  rw [stpE.toList]
  exact stp_msgL m
def stepF (d : CD) (s : Stp) : CD :=
  if s.kind = 1 then (askF d s.line s.hl s.wr s.pick).1
  else if s.kind = 2 then (takeF d s.msg).1
  else if s.kind = 3 then (evictF d s.pick).1
  else if s.kind = 4 then (writeF d s.addr s.width s.value).1
  else d
theorem DOk.step {d : CD} (h : DOk d) (s : Stp) : DOk (stepF d s) := by
  unfold stepF
  split
  · exact h.ask _ _ _ _
  split
  · exact h.take _
  split
  · exact h.evict _
  split
  · exact h.write _ _ _
  · exact h
def stepsF (d : CD) (l : List Stp) : CD := l.foldl stepF d
end Go.Proofs.Ytflnlmibkbojcaa
namespace Go.Proofs.Ytflnlmibkbojcaa
open Go.RowKit
set_option maxRecDepth 100000 in
set_option maxHeartbeats 4000000 in
theorem one_c {w : World} {Fp : Nat → Prop} {b : Nat} {d : CD} (H : CacAt w Fp b d) (s : Stp)  : Calls Try.prog 28 #[.pointer (some ⟨b, 0, none⟩), .agg (stpE.arr s)] w (Ret fun v w' => v = .tuple #[] ∧ Moved w Fp b (stepF d s) w') := by
 have gA_Fp : ∀ g, Fp g → Fp g ∨ w.heap.size ≤ g := fun g hg => .inl hg
 have hs1 := s.hl
 have hs2 := s.ha
 have hs3 := s.hv
 have hF := Only.refl (Fp) w
 refine Zen 38 Try.func28 ?_
 refine Zsr ?_
 refine Znb (cs := stpE.arr s) fun b1 w2 hN3 B4 hb5 => ?_
 refine Znn ?_
 refine Zsr ?_
 refine Zf fo45_0 ?_
 refine Zd (v := .int .i64 s.kind) pl3 (B4.cell 0 rfl) ?_
 refine Znn ?_
 refine Zbl ?_
 refine Zsr ?_
 refine Zv _ (fun _ fr => x_eql rfl (fr.ev rfl) rfl rfl) ?_
 refine Za ?_
 refine Znn ?_
 refine Zcd (fun hc6 => ?_) (fun hc6 => ?_)
 ·have hc6 := of_decide_eq_true hc6
  refine Zrg ?_
  refine Zm ?_
  refine Zf fo45_3 ?_
  refine Zd (v := .int .u32 s.line) pl32 (B4.cell 3 rfl) ?_
  refine Zf fo45_6 ?_
  refine Zd (v := .bool (s.wr)) pl4 (B4.cell 6 rfl) ?_
  refine Zf fo45_1 ?_
  refine Zd (v := .int .i64 s.pick) pl3 (B4.cell 1 rfl) ?_
  replace H := H.new hN3
  refine Zk cf13 (u_ask H s.line s.hl (s.wr) s.pick) ?_
  rintro v w14 ⟨A10, cap11, rfl, O12, hA13, Fp7, H8, hN15, mv9⟩
  replace hF := hF.trNew hN3
  have gA_Fp7 := gA_movedP hF mv9 gA_Fp
  have hdok_H := H.2
  clear H
  refine Znl ?_
  refine Zb ?_
  refine Zee rfl [] trivial ?_
  have hsd : stepF d s = (askF d s.line s.hl (s.wr) s.pick).1 := by unfold stepF; rw [if_pos hc6]
  rw [hsd]
  replace hF := hF.locP hN15 gA_Fp
  exact ⟨_, rfl, rfl, Fp7, H8, hF, gA_Fp7⟩
 ·have hc6 := of_decide_eq_false hc6
  refine Zsr ?_
  refine Zv _ (fun _ fr => x_eql rfl (fr.ev rfl) rfl rfl) ?_
  refine Za ?_
  refine Znn ?_
  refine Zcd (fun hc16 => ?_) (fun hc16 => ?_)
  ·have hc16 := of_decide_eq_true hc16
   refine Zrg ?_
   refine Zm ?_
   refine Zf fo45_7 ?_
   refine ZE (p := s.msg) msgE ag35 (B4.part (stp_msg s)) ?_
   replace H := H.new hN3
   refine Zk cf14 (u_take H s.msg) ?_
   rintro v w24 ⟨A20, cap21, rfl, O22, hA23, Fp17, H18, hN25, mv19⟩
   replace hF := hF.trNew hN3
   have gA_Fp17 := gA_movedP hF mv19 gA_Fp
   have hdok_H := H.2
   clear H
   refine Znl ?_
   refine Zb ?_
   refine Zee rfl [] trivial ?_
   have hsd : stepF d s = (takeF d s.msg).1 := by unfold stepF; rw [if_neg hc6, if_pos hc16]
   rw [hsd]
   replace hF := hF.locP hN25 gA_Fp
   exact ⟨_, rfl, rfl, Fp17, H18, hF, gA_Fp17⟩
  ·have hc16 := of_decide_eq_false hc16
   refine Zsr ?_
   refine Zv _ (fun _ fr => x_eql rfl (fr.ev rfl) rfl rfl) ?_
   refine Za ?_
   refine Znn ?_
   refine Zcd (fun hc26 => ?_) (fun hc26 => ?_)
   ·have hc26 := of_decide_eq_true hc26
    refine Zrg ?_
    refine Zm ?_
    refine Zf fo45_1 ?_
    refine Zd (v := .int .i64 s.pick) pl3 (B4.cell 1 rfl) ?_
    replace H := H.new hN3
    refine Zk cf25 (u_evict H s.pick) ?_
    rintro v w34 ⟨A30, cap31, rfl, O32, hA33, Fp27, H28, hN35, mv29⟩
    replace hF := hF.trNew hN3
    have gA_Fp27 := gA_movedP hF mv29 gA_Fp
    have hdok_H := H.2
    clear H
    refine Znl ?_
    refine Zb ?_
    refine Zee rfl [] trivial ?_
    have hsd : stepF d s = (evictF d s.pick).1 := by unfold stepF; rw [if_neg hc6, if_neg hc16, if_pos hc26]
    rw [hsd]
    replace hF := hF.locP hN35 gA_Fp
    exact ⟨_, rfl, rfl, Fp27, H28, hF, gA_Fp27⟩
   ·have hc26 := of_decide_eq_false hc26
    refine Zsr ?_
    refine Zv _ (fun _ fr => x_eql rfl (fr.ev rfl) rfl rfl) ?_
    refine Za ?_
    refine Znn ?_
    refine Zcd (fun hc36 => ?_) (fun hc36 => ?_)
    ·have hc36 := of_decide_eq_true hc36
     refine Zrg ?_
     refine Zm ?_
     refine Zf fo45_4 ?_
     refine Zd (v := .int .u32 s.addr) pl32 (B4.cell 4 rfl) ?_
     refine Zf fo45_2 ?_
     refine Zd (v := .int .i64 s.width) pl3 (B4.cell 2 rfl) ?_
     refine Zf fo45_5 ?_
     refine Zd (v := .int .u32 s.value) pl32 (B4.cell 5 rfl) ?_
     replace H := H.new hN3
     refine Zk cf15 (u_write H s.addr s.ha s.width s.value) ?_
     rintro v w40 ⟨rfl, Fp37, H38, hN41, mv39⟩
     replace hF := hF.trNew hN3
     have gA_Fp37 := gA_movedP hF mv39 gA_Fp
     have hdok_H := H.2
     clear H
     refine Znl ?_
     refine Zb ?_
     refine Zee rfl [] trivial ?_
     have hsd : stepF d s = (writeF d s.addr s.width s.value).1 := by unfold stepF; rw [if_neg hc6, if_neg hc16, if_neg hc26, if_pos hc36]
     rw [hsd]
     replace hF := hF.locP hN41 gA_Fp
     exact ⟨_, rfl, rfl, Fp37, H38, hF, gA_Fp37⟩
    ·have hc36 := of_decide_eq_false hc36
     refine Zsk ?_
     refine Zb ?_
     refine Zee rfl [] trivial ?_
     have hsd : stepF d s = d := by unfold stepF; rw [if_neg hc6, if_neg hc16, if_neg hc26, if_neg hc36]
     rw [hsd]
     replace H := H.new hN3
     replace hF := hF.trNew hN3
     exact ⟨_, rfl, rfl, Fp, H, hF, gA_Fp⟩
end Go.Proofs.Ytflnlmibkbojcaa
namespace Go.Proofs.Ytflnlmibkbojcaa
open Go.RowKit
def setB (b : B16) (j : Nat) (v : Int) (h : 0 ≤ v ∧ v < 256) : B16 := ⟨b.1.set j v, by rw [List.length_set]; exact b.2.1, fun a ha => by
  rcases List.mem_or_eq_of_mem_set ha with ha | rfl
  · exact b.2.2 a ha
  · exact h⟩
theorem msg_setb (m : Msg) (j : Nat) (v : Int) (h : 0 ≤ v ∧ v < 256) : (msgE.arr m).setIfInBounds (4 + j) (.int .u8 v) = msgE.arr { m with bs := setB m.bs j v h } := by
  apply Array.toList_inj.1
  rw [Array.toList_setIfInBounds, Enc.toList, Enc.toList]
  show (Msg.cells _).set (4 + j) _ = Msg.cells _
  rw [Nat.add_comm 4]
  simp [Msg.cells, setB, List.map_set]
def kd0 : CD := ⟨0, 1, 1, [], none, none⟩
def kd1 : CD := ⟨0, 1, 1, [], some (3, false), none⟩
def km1 : Msg := mkM 1 0 4 3
def km2 : Msg := { mkM 9 4 0 3 with bs := setB b16z 0 7 (by decide) }
def kl2 : Ln := mkL 3 2 (setB b16z 0 7 (by decide))
def kd2 : CD := ⟨0, 1, 1, [kl2], none, none⟩
def km3 : Msg := mkM 13 0 4 3
theorem known_1 : askF kd0 3 (by decide) false 0 = (kd1, [km1], 0) := by rfl
theorem known_2 : takeF kd1 km2 = (kd2, [km3], 0) := by rfl
theorem known_3 : readF kd2.L 48 4 = (7, 0) := by decide +kernel
section
variable {w : World} {Fp : Nat → Prop} {b : Nat}
theorem k_ask (H : CacAt w Fp b kd0) : Calls Try.prog 13 #[.pointer (some ⟨b, 0, none⟩), .int .u32 3, .bool false, .int .i64 0] w (Ret fun v w' => TakeU w Fp b (kd1, [km1], 0) v w') := by
  have := u_ask H 3 (by decide) false 0
  rwa [known_1] at this
theorem k_take (H : CacAt w Fp b kd1) : Calls Try.prog 14 #[.pointer (some ⟨b, 0, none⟩), .agg (msgE.arr km2)] w (Ret fun v w' => TakeU w Fp b (kd2, [km3], 0) v w') := by
  have := u_take H km2
  rwa [known_2] at this
theorem k_read (H : CacAt w Fp b kd2) : Calls Try.prog 17 #[.pointer (some ⟨b, 0, none⟩), .int .u32 48, .int .i64 4] w (Ret fun v w' => v = .tuple #[.int .u32 7, .int .i64 0] ∧ New w w') := by
  have := u_read H 48 (by decide) 4
  rwa [known_3] at this
end
end Go.Proofs.Ytflnlmibkbojcaa
namespace Go.Proofs.Ytflnlmibkbojcaa
open Go.RowKit
set_option maxRecDepth 100000 in
set_option maxHeartbeats 4000000 in
theorem known_c (w : World) : Calls Try.prog 11 #[] w (Ret fun v w' => v = .bool true ∧ New w w') := by
 have hF := Only.refl (fun _ => False) w
 refine Zen 75 Try.func11 ?_
 refine Zsr ?_
 refine Za ?_
 refine Znn ?_
 refine Zsr ?_
 refine Zk (args := #[.int .i64 0, .int .i64 1, .int .i64 1]) cf12 (u_new 0 1 1 (by omega) (by decide) _) ?_
 rintro v w5 ⟨b1, Fp2, rfl, H3, hb4, hN6⟩
 have gA_Fp2 := gA_newP hF hb4
 refine Zm ?_
 refine Zt ?_
 refine Zt ?_
 refine Za ?_
 refine Za ?_
 refine Znn ?_
 refine Zsr ?_
 refine Zm ?_
 refine Zk cf13 (k_ask H3) ?_
 rintro v w14 ⟨A10, cap11, rfl, O12, hA13, Fp7, H8, hN15, mv9⟩
 replace hF := hF.trNew hN6
 have gA_Fp7 := gA_movedP hF mv9 gA_Fp2
 have hdok_H3 := H3.2
 clear H3
 have ap2_Fp7_A10 := H8.msg_ap O12
 refine Zm ?_
 refine Zt ?_
 refine Zt ?_
 refine Za ?_
 refine Za ?_
 refine Znn ?_
 refine Zsr ?_
 refine Zv (.agg (msgE.arr (mkM 9 4 0 3))) (fun _ _ => x_build (cells := msgE.arr (mkM 9 4 0 3)) rfl (by kernel_rfl)) ?_
 refine Zna (z := zv3) (cs := msgE.arr msg0) (by kernel_rfl) fun b16 w17 hN18 B19 hb20 => ?_
 have ap_Fp7_b16 : ¬ Fp7 b16 := H8.apart hb20
 have ap_A10_b16 : Apart A10 b16 := O12.apart hb20
 replace hF := hF.locP hN15 gA_Fp2
 have g_b16 := Nat.le_trans hF.size hb20
 refine ZsS sz35 (msgE.all _) B19 (msgE.size _) (msgE.size _) fun w21 hO22 hBq => ?_
 replace B19 := hBq
 clear hBq
 refine Znn ?_
 refine Zsr ?_
 refine Zf fo35_4 ?_
 refine Zv (.pointer (some ⟨b16, 4 + 0, none⟩)) (fun _ fr => x_indexArr Try.underlying22 sz16 rfl (fr.ev rfl) rfl (by omega) (show 4 + 0 * 1 = 4 + 0 by omega)) ?_
 refine Zs1 (cs' := msgE.arr { (mkM 9 4 0 3) with bs := setB (mkM 9 4 0 3).bs 0 7 (by decide) }) sz5 B19 (by rw [msgE.size]; show _ < 20; omega) (msg_setb _ 0 _ (by decide)) fun w23 hO24 hBq => ?_
 replace B19 := hBq
 clear hBq
 refine Znn ?_
 refine Zsq ?_
 replace B19 : Blk w23 b16 35 (msgE.arr km2) := B19
 refine Zrg ?_
 refine Zm ?_
 refine ZE msgE ag35 (B19.rangeE msgE) ?_
 replace H8 := ((H8.new hN18).only hO22 (ne1P ap_Fp7_b16)).only hO24 (ne1P ap_Fp7_b16)
 refine Zk cf14 (k_take H8) ?_
 rintro v w32 ⟨A28, cap29, rfl, O30, hA31, Fp25, H26, hN33, mv27⟩
 have hdok_H8 := H8.2
 clear H8
 refine Zm ?_
 refine Zt ?_
 refine Zt ?_
 refine Za ?_
 refine Za ?_
 refine Znn ?_
 refine Zsr ?_
 refine Zm ?_
 refine Zk cf17 (k_read H26) ?_
 rintro v w34 ⟨rfl, hN35⟩
 refine Zm ?_
 refine Zt ?_
 refine Zt ?_
 refine Za ?_
 refine Za ?_
 refine Znn ?_
 refine Zsr ?_
 refine Zm ?_
 refine Zv (.bool true) (fun _ fr => x_eql rfl (fr.ev rfl) rfl rfl) ?_
 refine Zm ?_
 refine Zm ?_
 refine Zv (.bool true) (fun _ fr => x_eql rfl (fr.ev rfl) rfl rfl) ?_
 refine Zpt ?_
 refine Zm ?_
 refine Zm ?_
 refine Zv (.bool true) (fun _ fr => x_eql rfl (fr.ev rfl) rfl rfl) ?_
 refine Zpt ?_
 refine Zm ?_
 refine Zm ?_
 refine Zv (.bool true) (fun _ fr => x_eql rfl (fr.ev rfl) rfl rfl) ?_
 refine Zpt ?_
 refine Zm ?_
 refine Zm ?_
 refine Zv _ (fun _ fr => x_len Try.underlying29 rfl (fr.ev rfl)) ?_
 refine Zv (.bool true) (fun _ fr => x_eql rfl (fr.ev rfl) rfl rfl) ?_
 refine Zpt ?_
 refine Zm ?_
 refine Zm ?_
 replace O12 := ((((O12.new hN18).only hO22 (Apart.ne1 ap_A10_b16)).only hO24 (Apart.ne1 ap_A10_b16)).only hN33 (fun g h1 h2 => (symP ap2_Fp7_A10) g h1 h2)).new hN35
 obtain ⟨g36, o37, hA38⟩ := (O12.view).some_ (by first | omega | decide)
 refine Zv (.pointer (some ⟨g36, o37 + 0 * 20, none⟩)) (fun _ fr => x_indexV Try.underlying29 sz35 rfl (fr.ev rfl) hA38 rfl (by first | omega | decide) rfl) ?_
 refine Zf fo35_0 ?_
 refine Zd (v := .int .i64 1) pl33 (range_cell ((O12.view).elem hA38 0 msg0 (by first | omega | decide)) 0 rfl rfl) ?_
 refine Zv (.bool true) (fun _ fr => x_eql rfl (fr.ev rfl) rfl rfl) ?_
 refine Zpt ?_
 refine Zm ?_
 refine Zm ?_
 refine Zv _ (fun _ fr => x_len Try.underlying29 rfl (fr.ev rfl)) ?_
 refine Zv (.bool true) (fun _ fr => x_eql rfl (fr.ev rfl) rfl rfl) ?_
 refine Zpt ?_
 refine Zm ?_
 refine Zm ?_
 replace O30 := O30.new hN35
 obtain ⟨g39, o40, hA41⟩ := (O30.view).some_ (by first | omega | decide)
 refine Zv (.pointer (some ⟨g39, o40 + 0 * 20, none⟩)) (fun _ fr => x_indexV Try.underlying29 sz35 rfl (fr.ev rfl) hA41 rfl (by first | omega | decide) rfl) ?_
 refine Zf fo35_0 ?_
 refine Zd (v := .int .i64 13) pl33 (range_cell ((O30.view).elem hA41 0 msg0 (by first | omega | decide)) 0 rfl rfl) ?_
 refine Zv (.bool true) (fun _ fr => x_eql rfl (fr.ev rfl) rfl rfl) ?_
 refine Zpt ?_
 refine Zm ?_
 refine Zm ?_
 refine Zv (.bool true) (fun _ fr => x_eql rfl (fr.ev rfl) rfl rfl) ?_
 refine Zpt ?_
 refine Za ?_
 refine Znn ?_
 refine Zrt ?_
 refine Zre rfl [_] ⟨rfl, trivial⟩ ?_
 replace hF := ((((hF.trNew hN18).loc hO22 (.inr g_b16)).loc hO24 (.inr g_b16)).locP hN33 gA_Fp7).trNew hN35
 exact ⟨_, rfl, rfl, hF⟩
end Go.Proofs.Ytflnlmibkbojcaa
namespace Go.Proofs.Ytflnlmibkbojcaa
open Go.RowKit
theorem steps_snoc {d : CD} {l : List Stp} {k : Nat} (h : k < l.length) : stepsF d (l.take (k + 1)) = stepF (stepsF d (l.take k)) (l.getD k stp0) := by
  unfold stepsF
  rw [List.take_succ_eq_append_getElem h, List.foldl_append]
  simp [List.getD, h]
end Go.Proofs.Ytflnlmibkbojcaa
namespace Go.Proofs.Ytflnlmibkbojcaa
open Go.RowKit
set_option maxRecDepth 100000 in
set_option maxHeartbeats 4000000 in
theorem copies_no (sets ways : Int) (hr : rightB sets ways = false) {w : World} {Al : Option Addr} {cl : Nat} {l : List Stp} (hl : View stpE w Al cl l) {Am : Option Addr} {cm : Nat} {m : List Stp} (hm : View stpE w Am cm m)  : Calls Try.prog 7 #[.agg (#[.int .i64 sets, .int .i64 ways]), .slice Al l.length cl, .slice Am m.length cm] w (Ret fun v w' => v = .bool true ∧ New w w') := by
 have hll := hl.len
 unfold maxLen at hll
 have hmm := hm.len
 unfold maxLen at hmm
 have hno : ¬ (0 ≤ (1 : Int) ∧ (1 : Int) < 4) ∨ rightB sets ways = false := .inr hr
 have hF := Only.refl (fun _ => False) w
 refine Zen 145 Try.func7 ?_
 refine Zsr ?_
 refine Znb (cs := #[.int .i64 sets, .int .i64 ways]) fun b1 w2 hN3 B4 hb5 => ?_
 refine Za ?_
 refine Znn ?_
 refine Zsr ?_
 refine Zf fo55_0 ?_
 refine Zd (v := .int .i64 sets) pl3 (B4.cell 0 rfl) ?_
 refine Zf fo55_1 ?_
 refine Zd (v := .int .i64 ways) pl3 (B4.cell 1 rfl) ?_
 refine Zk cf12 (u_new_no 1 sets ways hno _) ?_
 rintro v w6 ⟨rfl, hN7⟩
 refine Zm ?_
 refine Zt ?_
 refine Zt ?_
 refine Za ?_
 refine Za ?_
 refine Znn ?_
 refine Zsq ?_
 refine Zsr ?_
 refine Zm ?_
 refine Zv (.bool true) (fun _ fr => x_neq rfl (fr.ev rfl) rfl rfl) ?_
 refine Zm ?_
 refine Zs ?_
 refine Zs ?_
 refine Zs ?_
 refine Zs ?_
 refine Zs ?_
 refine Zs ?_
 refine Zpt ?_
 refine Znn ?_
 refine Zct ?_
 refine Zsr ?_
 refine Zk cf11 (known_c _) ?_
 rintro v w8 ⟨rfl, hN9⟩
 refine Za ?_
 refine Znn ?_
 refine Zrt ?_
 refine Zr1 ?_
 refine Zre rfl [_] ⟨rfl, trivial⟩ ?_
 replace hF := ((hF.trNew hN3).trNew hN7).trNew hN9
 exact ⟨_, rfl, rfl, hF⟩
set_option maxRecDepth 100000 in
set_option maxHeartbeats 4000000 in
theorem copies_yes (n : Nat) (ways : Int) (hr : rightB ((n : Nat) : Int) ways = true) {w : World} {Al : Option Addr} {cl : Nat} {l : List Stp} (hl : View stpE w Al cl l) {Am : Option Addr} {cm : Nat} {m : List Stp} (hm : View stpE w Am cm m)  : Calls Try.prog 7 #[.agg (#[.int .i64 ((n : Nat) : Int), .int .i64 ways]), .slice Al l.length cl, .slice Am m.length cm] w (Ret fun v w' => v = .bool true ∧ New w w') := by
 have hll := hl.len
 unfold maxLen at hll
 have hmm := hm.len
 unfold maxLen at hmm
 have hF := Only.refl (fun _ => False) w
 refine Zen 145 Try.func7 ?_
 refine Zsr ?_
 refine Znb (cs := #[.int .i64 ((n : Nat) : Int), .int .i64 ways]) fun b1 w2 hN3 B4 hb5 => ?_
 refine Za ?_
 refine Znn ?_
 refine Zsr ?_
 refine Zf fo55_0 ?_
 refine Zd (v := .int .i64 ((n : Nat) : Int)) pl3 (B4.cell 0 rfl) ?_
 refine Zf fo55_1 ?_
 refine Zd (v := .int .i64 ways) pl3 (B4.cell 1 rfl) ?_
 refine Zk (args := #[.int .i64 1, .int .i64 ((n : Nat) : Int), .int .i64 ways]) cf12 (u_new 1 n ways (by omega) hr _) ?_
 rintro v w10 ⟨b6, Fp7, rfl, H8, hb9, hN11⟩
 replace hl := hl.new hN3
 have ap2_Al_Fp7 : ∀ k, inA Al k → Fp7 k → False := symP (new_apart2P hb9 fun _ hg => hl.lt hg)
 replace hm := hm.new hN3
 have ap2_Am_Fp7 : ∀ k, inA Am k → Fp7 k → False := symP (new_apart2P hb9 fun _ hg => hm.lt hg)
 have ap_Fp7_b1 : ¬ Fp7 b1 := new_apartP hb9 B4.lt
 replace hF := hF.trNew hN3
 have gA_Fp7 := gA_newP hF hb9
 refine Zm ?_
 refine Zt ?_
 refine Zt ?_
 refine Za ?_
 refine Za ?_
 refine Znn ?_
 refine Zsq ?_
 refine Zsr ?_
 refine Zm ?_
 refine Zv (.bool false) (fun _ fr => x_neq rfl (fr.ev rfl) rfl rfl) ?_
 refine Zm ?_
 refine Zm ?_
 refine Zv _ (fun _ fr => x_len Try.underlying23 rfl (fr.ev rfl)) ?_
 refine Zm ?_
 refine Zv _ (fun _ fr => x_len Try.underlying23 rfl (fr.ev rfl)) ?_
 refine Zv _ (fun _ fr => x_add rfl (fr.ev rfl) (fr.ev rfl) rfl) ?_
 refine Zv _ (fun _ fr => x_gtr rfl (fr.ev rfl) rfl rfl) ?_
 refine Zpf ?_
 refine Znn ?_
 refine Zcd (fun hc12 => ?_) (fun hc12 => ?_)
 ·have hc12 := of_decide_eq_true hc12
  refine Zsr ?_
  refine Zk cf11 (known_c _) ?_
  rintro v w13 ⟨rfl, hN14⟩
  refine Za ?_
  refine Znn ?_
  refine Zrt ?_
  refine Zr1 ?_
  refine Zre rfl [_] ⟨rfl, trivial⟩ ?_
  replace hF := (hF.trNew hN11).trNew hN14
  exact ⟨_, rfl, rfl, hF⟩
 ·have hc12 := of_decide_eq_false hc12
  refine Zsk ?_
  refine Znx ?_
  refine Zsq ?_
  refine Zsr ?_
  refine Za ?_
  refine Znn ?_
  refine Zbl ?_
  intro a fr
  replace hl := hl.new hN11
  replace hm := hm.new hN11
  replace B4 := B4.new hN11
  replace hF := hF.trNew hN11
  refine fx_loop (fun nM a wL => ∃ i : Nat, ∃ Fpc : Nat → Prop, nM = l.length - i ∧ Fr (145, []) [(1, .slice Al l.length cl), (2, .slice Am m.length cm), (3, .pointer (some ⟨b1, 0, none⟩)), (7, .pointer (some ⟨b6, 0, none⟩)), (9, .int .i64 ((i : Nat) : Int))] a ∧ Only (fun _ => False) w wL ∧ View stpE wL Al cl l ∧ View stpE wL Am cm m ∧ Blk wL b1 55 (#[.int .i64 ((n : Nat) : Int), .int .i64 ways]) ∧ CacAt wL Fpc b6 (stepsF ⟨1, n, ways, [], none, none⟩ (l.take i)) ∧ i ≤ l.length ∧ (∀ k, inA Al k → Fpc k → False) ∧ (∀ k, inA Am k → Fpc k → False) ∧ (¬ Fpc b1) ∧ (∀ g, Fpc g → (fun _ => False) g ∨ w.heap.size ≤ g)) (n0 := _) ⟨0, Fp7, rfl, fr.sub ⟨rfl, rfl, rfl, rfl, rfl, trivial⟩, hF, hl, hm, B4, H8, by omega, ap2_Al_Fp7, ap2_Am_Fp7, ap_Fp7_b1, gA_Fp7⟩ ?_
  clear fr a
  rintro n16 a w15 ⟨i, Fpc, rfl, fr, hF, hl, hm, B4, Hc, hi, ap2_Al_Fpc, ap2_Am_Fpc, ap_Fpc_b1, gA_Fpc⟩
  revert a
  refine Zsq ?_
  refine Zsr ?_
  refine Zm ?_
  refine Zm ?_
  refine Zv _ (fun _ fr => x_len Try.underlying23 rfl (fr.ev rfl)) ?_
  refine Zv _ (fun _ fr => x_lss rfl (fr.ev rfl) (fr.ev rfl) rfl) ?_
  refine Znn ?_
  refine Zcd (fun hc17 => ?_) (fun hc17 => ?_)
  ·have hc17 := of_decide_eq_true hc17
   refine Zsk ?_
   refine Znx ?_
   refine Zsq ?_
   refine Zbl ?_
   refine Zrg ?_
   refine Zm ?_
   refine Zm ?_
   refine Zm ?_
   obtain ⟨g18, o19, hA20⟩ := (hl).some_ (by first | omega | decide)
   refine Zv (.pointer (some ⟨g18, o19 + i * 27, none⟩)) (fun _ fr => x_indexV Try.underlying23 sz45 rfl (fr.ev rfl) hA20 (fr.ev rfl) (by first | omega | decide) rfl) ?_
   refine ZE stpE ag45 ((hl).elem hA20 i stp0 (by omega)) ?_
   refine Zk cf28 (one_c Hc (l.getD i stp0)) ?_
   rintro v w24 ⟨rfl, Fp21, H22, hN25, mv23⟩
   have ap2_Fp21_Al : ∀ k, Fp21 k → inA Al k → False := moved_apart2P mv23 (symP ap2_Al_Fpc) fun _ hg => hl.lt hg
   have ap2_Fp21_Am : ∀ k, Fp21 k → inA Am k → False := moved_apart2P mv23 (symP ap2_Am_Fpc) fun _ hg => hm.lt hg
   have ap_Fp21_b1 : ¬ Fp21 b1 := moved_apartP mv23 ap_Fpc_b1 B4.lt
   have gA_Fp21 := gA_movedP hF mv23 gA_Fpc
   have hdok_Hc := Hc.2
   clear Hc
   refine Znl ?_
   refine Zb ?_
   refine Znx ?_
   refine Zrg ?_
   refine Zm ?_
   refine Zv _ (fun _ fr => x_add rfl (fr.ev rfl) rfl (i64w (r := ((i + 1 : Nat) : Int)) (by omega) (by omega))) ?_
   refine Za ?_
   intro a fr
   refine wpList_nil ?_
   refine fx_next ?_
   have hst := steps_snoc (d := ⟨1, n, ways, [], none, none⟩) (l := l) (k := i) (by omega)
   replace hl := hl.only hN25 (fun g h1 h2 => ap2_Al_Fpc g h1 h2)
   replace hm := hm.only hN25 (fun g h1 h2 => ap2_Am_Fpc g h1 h2)
   replace B4 := B4.only hN25 ap_Fpc_b1
   replace hF := hF.locP hN25 gA_Fpc
   exact ⟨_, by omega, (i + 1), Fp21, rfl, fr.sub ⟨rfl, rfl, rfl, rfl, rfl, trivial⟩, hF, hl, hm, B4, (by rw [hst]; exact H22), by omega, (symP ap2_Fp21_Al), (symP ap2_Fp21_Am), ap_Fp21_b1, gA_Fp21⟩
  ·have hc17 := of_decide_eq_false hc17
   refine Zex ?_
   refine Zxt ?_
   refine Zxt ?_
   refine Zxx ?_
   refine Znx ?_
   refine Zsq ?_
   rw [List.take_of_length_le (show l.length ≤ i by omega)] at Hc
   refine Zrg ?_
   refine Zm ?_
   refine Zk cf29 (u_copy Hc) ?_
   rintro v w30 ⟨b26, Fp27, rfl, H28, hb29, hN31⟩
   have ap2_Al_Fp27 : ∀ k, inA Al k → Fp27 k → False := symP (new_apart2P hb29 fun _ hg => hl.lt hg)
   have ap2_Am_Fp27 : ∀ k, inA Am k → Fp27 k → False := symP (new_apart2P hb29 fun _ hg => hm.lt hg)
   have ap_Fp27_b1 : ¬ Fp27 b1 := new_apartP hb29 B4.lt
   have ap2_Fpc_Fp27 : ∀ k, Fpc k → Fp27 k → False := symP (new_apart2P hb29 fun _ hg => Hc.lt hg)
   have gA_Fp27 := gA_newP hF hb29
   refine Za ?_
   refine Znn ?_
   refine Zsr ?_
   refine Zm ?_
   replace Hc := Hc.new hN31
   refine Zk cf30 (u_lines Hc) ?_
   rintro v w36 ⟨A32, cap33, rfl, O34, hA35, hN37⟩
   have ap2_Fpc_A32 : ∀ k, Fpc k → inA A32 k → False := symP (new_apart2P hA35 fun _ hg => Hc.lt hg)
   have ap2_Fp27_A32 : ∀ k, Fp27 k → inA A32 k → False := symP (new_apart2P hA35 fun _ hg => H28.lt hg)
   refine Za ?_
   refine Znn ?_
   refine Zsq ?_
   refine Zsr ?_
   refine Zm ?_
   refine Zv (.bool false) (fun _ fr => x_peql Try.underlying25 rfl (fr.ev rfl) rfl rfl) ?_
   refine Znn ?_
   refine Zcf ?_
   refine Zsk ?_
   refine Znx ?_
   refine Zsq ?_
   refine Zsr ?_
   refine Za ?_
   refine Znn ?_
   refine Zbl ?_
   intro a fr
   replace hl := (hl.new hN31).new hN37
   replace hm := (hm.new hN31).new hN37
   replace B4 := (B4.new hN31).new hN37
   replace hF := (hF.trNew hN31).trNew hN37
   replace Hc := Hc.new hN37
   replace H28 := H28.new hN37
   refine fx_loop (fun nM a wL => ∃ j : Nat, ∃ Fpd : Nat → Prop, nM = m.length - j ∧ Fr (145, []) [(1, .slice Al l.length cl), (2, .slice Am m.length cm), (3, .pointer (some ⟨b1, 0, none⟩)), (7, .pointer (some ⟨b6, 0, none⟩)), (10, .pointer (some ⟨b26, 0, none⟩)), (11, .slice A32 ((allL (stepsF ⟨1, n, ways, [], none, none⟩ l).n (stepsF ⟨1, n, ways, [], none, none⟩ l).L).length) cap33), (12, .int .i64 ((j : Nat) : Int))] a ∧ Only (fun _ => False) w wL ∧ View stpE wL Al cl l ∧ View stpE wL Am cm m ∧ Blk wL b1 55 (#[.int .i64 ((n : Nat) : Int), .int .i64 ways]) ∧ CacAt wL Fpc b6 (stepsF ⟨1, n, ways, [], none, none⟩ l) ∧ Own lnE wL A32 cap33 (allL (stepsF ⟨1, n, ways, [], none, none⟩ l).n (stepsF ⟨1, n, ways, [], none, none⟩ l).L) ∧ CacAt wL Fpd b26 (stepsF (stepsF ⟨1, n, ways, [], none, none⟩ l) (m.take j)) ∧ j ≤ m.length ∧ (∀ k, inA Al k → Fpd k → False) ∧ (∀ k, inA Am k → Fpd k → False) ∧ (¬ Fpd b1) ∧ (∀ k, Fpc k → Fpd k → False) ∧ (∀ k, inA A32 k → Fpd k → False) ∧ (∀ g, Fpd g → (fun _ => False) g ∨ w.heap.size ≤ g)) (n0 := _) ⟨0, Fp27, rfl, fr.sub ⟨rfl, rfl, rfl, rfl, rfl, rfl, rfl, trivial⟩, hF, hl, hm, B4, Hc, O34, H28, by omega, ap2_Al_Fp27, ap2_Am_Fp27, ap_Fp27_b1, ap2_Fpc_Fp27, (symP ap2_Fp27_A32), gA_Fp27⟩ ?_
   clear fr a
   rintro n39 a w38 ⟨j, Fpd, rfl, fr, hF, hl, hm, B4, Hc, O34, Hd, hj, ap2_Al_Fpd, ap2_Am_Fpd, ap_Fpd_b1, ap2_Fpc_Fpd, ap2_A32_Fpd, gA_Fpd⟩
   revert a
   refine Zsq ?_
   refine Zsr ?_
   refine Zm ?_
   refine Zm ?_
   refine Zv _ (fun _ fr => x_len Try.underlying23 rfl (fr.ev rfl)) ?_
   refine Zv _ (fun _ fr => x_lss rfl (fr.ev rfl) (fr.ev rfl) rfl) ?_
   refine Znn ?_
   refine Zcd (fun hc40 => ?_) (fun hc40 => ?_)
   ·have hc40 := of_decide_eq_true hc40
    refine Zsk ?_
    refine Znx ?_
    refine Zsq ?_
    refine Zbl ?_
    refine Zrg ?_
    refine Zm ?_
    refine Zm ?_
    refine Zm ?_
    obtain ⟨g41, o42, hA43⟩ := (hm).some_ (by first | omega | decide)
    refine Zv (.pointer (some ⟨g41, o42 + j * 27, none⟩)) (fun _ fr => x_indexV Try.underlying23 sz45 rfl (fr.ev rfl) hA43 (fr.ev rfl) (by first | omega | decide) rfl) ?_
    refine ZE stpE ag45 ((hm).elem hA43 j stp0 (by omega)) ?_
    refine Zk cf28 (one_c Hd (m.getD j stp0)) ?_
    rintro v w47 ⟨rfl, Fp44, H45, hN48, mv46⟩
    have ap2_Fp44_Al : ∀ k, Fp44 k → inA Al k → False := moved_apart2P mv46 (symP ap2_Al_Fpd) fun _ hg => hl.lt hg
    have ap2_Fp44_Am : ∀ k, Fp44 k → inA Am k → False := moved_apart2P mv46 (symP ap2_Am_Fpd) fun _ hg => hm.lt hg
    have ap_Fp44_b1 : ¬ Fp44 b1 := moved_apartP mv46 ap_Fpd_b1 B4.lt
    have ap2_Fp44_Fpc : ∀ k, Fp44 k → Fpc k → False := moved_apart2P mv46 (symP ap2_Fpc_Fpd) fun _ hg => Hc.lt hg
    have ap2_Fp44_A32 : ∀ k, Fp44 k → inA A32 k → False := moved_apart2P mv46 (symP ap2_A32_Fpd) fun _ hg => O34.lt hg
    have gA_Fp44 := gA_movedP hF mv46 gA_Fpd
    have hdok_Hd := Hd.2
    clear Hd
    refine Znl ?_
    refine Zb ?_
    refine Znx ?_
    refine Zrg ?_
    refine Zm ?_
    refine Zv _ (fun _ fr => x_add rfl (fr.ev rfl) rfl (i64w (r := ((j + 1 : Nat) : Int)) (by omega) (by omega))) ?_
    refine Za ?_
    intro a fr
    refine wpList_nil ?_
    refine fx_next ?_
    have hst := steps_snoc (d := (stepsF ⟨1, n, ways, [], none, none⟩ l)) (l := m) (k := j) (by omega)
    replace hl := hl.only hN48 (fun g h1 h2 => ap2_Al_Fpd g h1 h2)
    replace hm := hm.only hN48 (fun g h1 h2 => ap2_Am_Fpd g h1 h2)
    replace B4 := B4.only hN48 ap_Fpd_b1
    replace Hc := Hc.only hN48 (fun g h1 h2 => ap2_Fpc_Fpd g h1 h2)
    replace O34 := O34.only hN48 (fun g h1 h2 => ap2_A32_Fpd g h1 h2)
    replace hF := hF.locP hN48 gA_Fpd
    exact ⟨_, by omega, (j + 1), Fp44, rfl, fr.sub ⟨rfl, rfl, rfl, rfl, rfl, rfl, rfl, trivial⟩, hF, hl, hm, B4, Hc, O34, (by rw [hst]; exact H45), by omega, (symP ap2_Fp44_Al), (symP ap2_Fp44_Am), ap_Fp44_b1, (symP ap2_Fp44_Fpc), (symP ap2_Fp44_A32), gA_Fp44⟩
   ·have hc40 := of_decide_eq_false hc40
    refine Zex ?_
    refine Zxt ?_
    refine Zxt ?_
    refine Zxx ?_
    refine Znx ?_
    refine Zsq ?_
    refine Zsq ?_
    rw [List.take_of_length_le (show m.length ≤ j by omega)] at Hd
    refine Zrg ?_
    refine Zm ?_
    refine Zk cf30 (u_lines Hc) ?_
    rintro v w53 ⟨A49, cap50, rfl, O51, hA52, hN54⟩
    have ap2_Fpc_A49 : ∀ k, Fpc k → inA A49 k → False := symP (new_apart2P hA52 fun _ hg => Hc.lt hg)
    refine Zm ?_
    replace O34 := O34.new hN54
    refine Zk cf31 (rsame_c (la := (allL (stepsF ⟨1, n, ways, [], none, none⟩ l).n (stepsF ⟨1, n, ways, [], none, none⟩ l).L)) (lb := (allL (stepsF ⟨1, n, ways, [], none, none⟩ l).n (stepsF ⟨1, n, ways, [], none, none⟩ l).L)) (O51.view) (O34.view)) ?_
    rintro v w55 ⟨rfl, hN56⟩
    intro a fr
    rw [show decide ((allL (stepsF ⟨1, n, ways, [], none, none⟩ l).n (stepsF ⟨1, n, ways, [], none, none⟩ l).L) = (allL (stepsF ⟨1, n, ways, [], none, none⟩ l).n (stepsF ⟨1, n, ways, [], none, none⟩ l).L)) = true from decide_eq_true rfl] at fr
    revert a
    refine Zv (.bool false) (fun _ fr => x_not rfl (fr.ev rfl) rfl) ?_
    refine Znn ?_
    refine Zcf ?_
    refine Zsk ?_
    refine Znx ?_
    refine Zsq ?_
    refine Zsr ?_
    refine Za ?_
    refine Znn ?_
    refine Zbl ?_
    intro a fr
    replace hl := (hl.new hN54).new hN56
    replace hm := (hm.new hN54).new hN56
    replace B4 := (B4.new hN54).new hN56
    replace Hc := (Hc.new hN54).new hN56
    replace Hd := (Hd.new hN54).new hN56
    replace hF := (hF.trNew hN54).trNew hN56
    replace O34 := O34.new hN56
    replace O51 := O51.new hN56
    refine fx_loop (fun nM a wL => ∃ k : Nat, ∃ Fpe : Nat → Prop, nM = m.length - k ∧ Fr (145, []) [(1, .slice Al l.length cl), (2, .slice Am m.length cm), (3, .pointer (some ⟨b1, 0, none⟩)), (7, .pointer (some ⟨b6, 0, none⟩)), (10, .pointer (some ⟨b26, 0, none⟩)), (11, .slice A32 ((allL (stepsF ⟨1, n, ways, [], none, none⟩ l).n (stepsF ⟨1, n, ways, [], none, none⟩ l).L).length) cap33), (13, .int .i64 ((k : Nat) : Int))] a ∧ Only (fun _ => False) w wL ∧ View stpE wL Al cl l ∧ View stpE wL Am cm m ∧ Blk wL b1 55 (#[.int .i64 ((n : Nat) : Int), .int .i64 ways]) ∧ Own lnE wL A32 cap33 (allL (stepsF ⟨1, n, ways, [], none, none⟩ l).n (stepsF ⟨1, n, ways, [], none, none⟩ l).L) ∧ CacAt wL Fpd b26 (stepsF (stepsF ⟨1, n, ways, [], none, none⟩ l) m) ∧ Own lnE wL A49 cap50 (allL (stepsF ⟨1, n, ways, [], none, none⟩ l).n (stepsF ⟨1, n, ways, [], none, none⟩ l).L) ∧ CacAt wL Fpe b6 (stepsF (stepsF ⟨1, n, ways, [], none, none⟩ l) (m.take k)) ∧ k ≤ m.length ∧ (∀ k, inA Al k → Fpe k → False) ∧ (∀ k, inA Am k → Fpe k → False) ∧ (¬ Fpe b1) ∧ (∀ k, inA A32 k → Fpe k → False) ∧ (∀ k, Fpd k → Fpe k → False) ∧ (∀ k, inA A49 k → Fpe k → False) ∧ (∀ g, Fpe g → (fun _ => False) g ∨ w.heap.size ≤ g)) (n0 := _) ⟨0, Fpc, rfl, fr.sub ⟨rfl, rfl, rfl, rfl, rfl, rfl, rfl, trivial⟩, hF, hl, hm, B4, O34, Hd, O51, Hc, by omega, ap2_Al_Fpc, ap2_Am_Fpc, ap_Fpc_b1, (symP ap2_Fpc_A32), (symP ap2_Fpc_Fpd), (symP ap2_Fpc_A49), gA_Fpc⟩ ?_
    clear fr a
    rintro n58 a w57 ⟨k, Fpe, rfl, fr, hF, hl, hm, B4, O34, Hd, O51, He, hk, ap2_Al_Fpe, ap2_Am_Fpe, ap_Fpe_b1, ap2_A32_Fpe, ap2_Fpd_Fpe, ap2_A49_Fpe, gA_Fpe⟩
    revert a
    refine Zsq ?_
    refine Zsr ?_
    refine Zm ?_
    refine Zm ?_
    refine Zv _ (fun _ fr => x_len Try.underlying23 rfl (fr.ev rfl)) ?_
    refine Zv _ (fun _ fr => x_lss rfl (fr.ev rfl) (fr.ev rfl) rfl) ?_
    refine Znn ?_
    refine Zcd (fun hc59 => ?_) (fun hc59 => ?_)
    ·have hc59 := of_decide_eq_true hc59
     refine Zsk ?_
     refine Znx ?_
     refine Zsq ?_
     refine Zbl ?_
     refine Zrg ?_
     refine Zm ?_
     refine Zm ?_
     refine Zm ?_
     obtain ⟨g60, o61, hA62⟩ := (hm).some_ (by first | omega | decide)
     refine Zv (.pointer (some ⟨g60, o61 + k * 27, none⟩)) (fun _ fr => x_indexV Try.underlying23 sz45 rfl (fr.ev rfl) hA62 (fr.ev rfl) (by first | omega | decide) rfl) ?_
     refine ZE stpE ag45 ((hm).elem hA62 k stp0 (by omega)) ?_
     refine Zk cf28 (one_c He (m.getD k stp0)) ?_
     rintro v w66 ⟨rfl, Fp63, H64, hN67, mv65⟩
     have ap2_Fp63_Al : ∀ k, Fp63 k → inA Al k → False := moved_apart2P mv65 (symP ap2_Al_Fpe) fun _ hg => hl.lt hg
     have ap2_Fp63_Am : ∀ k, Fp63 k → inA Am k → False := moved_apart2P mv65 (symP ap2_Am_Fpe) fun _ hg => hm.lt hg
     have ap_Fp63_b1 : ¬ Fp63 b1 := moved_apartP mv65 ap_Fpe_b1 B4.lt
     have ap2_Fp63_A32 : ∀ k, Fp63 k → inA A32 k → False := moved_apart2P mv65 (symP ap2_A32_Fpe) fun _ hg => O34.lt hg
     have ap2_Fp63_Fpd : ∀ k, Fp63 k → Fpd k → False := moved_apart2P mv65 (symP ap2_Fpd_Fpe) fun _ hg => Hd.lt hg
     have ap2_Fp63_A49 : ∀ k, Fp63 k → inA A49 k → False := moved_apart2P mv65 (symP ap2_A49_Fpe) fun _ hg => O51.lt hg
     have gA_Fp63 := gA_movedP hF mv65 gA_Fpe
     have hdok_He := He.2
     clear He
     refine Znl ?_
     refine Zb ?_
     refine Znx ?_
     refine Zrg ?_
     refine Zm ?_
     refine Zv _ (fun _ fr => x_add rfl (fr.ev rfl) rfl (i64w (r := ((k + 1 : Nat) : Int)) (by omega) (by omega))) ?_
     refine Za ?_
     intro a fr
     refine wpList_nil ?_
     refine fx_next ?_
     have hst := steps_snoc (d := (stepsF ⟨1, n, ways, [], none, none⟩ l)) (l := m) (k := k) (by omega)
     replace hl := hl.only hN67 (fun g h1 h2 => ap2_Al_Fpe g h1 h2)
     replace hm := hm.only hN67 (fun g h1 h2 => ap2_Am_Fpe g h1 h2)
     replace B4 := B4.only hN67 ap_Fpe_b1
     replace O34 := O34.only hN67 (fun g h1 h2 => ap2_A32_Fpe g h1 h2)
     replace Hd := Hd.only hN67 (fun g h1 h2 => ap2_Fpd_Fpe g h1 h2)
     replace O51 := O51.only hN67 (fun g h1 h2 => ap2_A49_Fpe g h1 h2)
     replace hF := hF.locP hN67 gA_Fpe
     exact ⟨_, by omega, (k + 1), Fp63, rfl, fr.sub ⟨rfl, rfl, rfl, rfl, rfl, rfl, rfl, trivial⟩, hF, hl, hm, B4, O34, Hd, O51, (by rw [hst]; exact H64), by omega, (symP ap2_Fp63_Al), (symP ap2_Fp63_Am), ap_Fp63_b1, (symP ap2_Fp63_A32), (symP ap2_Fp63_Fpd), (symP ap2_Fp63_A49), gA_Fp63⟩
    ·have hc59 := of_decide_eq_false hc59
     refine Zex ?_
     refine Zxt ?_
     refine Zxt ?_
     refine Zxx ?_
     refine Znx ?_
     refine Zsq ?_
     rw [List.take_of_length_le (show m.length ≤ k by omega)] at He
     refine Zrg ?_
     refine Zm ?_
     refine Zk cf32 (u_asked He) ?_
     rintro v w68 ⟨rfl, hN69⟩
     refine Zm ?_
     refine Zt ?_
     refine Zt ?_
     refine Zt ?_
     refine Za ?_
     refine Za ?_
     refine Za ?_
     refine Znn ?_
     refine Zsr ?_
     refine Zm ?_
     replace Hd := Hd.new hN69
     refine Zk cf32 (u_asked Hd) ?_
     rintro v w70 ⟨rfl, hN71⟩
     refine Zm ?_
     refine Zt ?_
     refine Zt ?_
     refine Zt ?_
     refine Za ?_
     refine Za ?_
     refine Za ?_
     refine Znn ?_
     refine Zsr ?_
     refine Zm ?_
     replace He := (He.new hN69).new hN71
     refine Zk cf33 (u_given He) ?_
     rintro v w72 ⟨rfl, hN73⟩
     refine Zm ?_
     refine Zt ?_
     refine Zt ?_
     refine Zna (z := zv1) (cs := lnE.arr ln0) (by kernel_rfl) fun b74 w75 hN76 B77 hb78 => ?_
     replace Hd := (Hd.new hN71).new hN73
     have ap_Fpd_b74 : ¬ Fpd b74 := Hd.apart hb78
     replace He := He.new hN73
     have ap_Fpe_b74 : ¬ Fpe b74 := He.apart hb78
     replace hF := ((hF.trNew hN69).trNew hN71).trNew hN73
     have g_b74 := Nat.le_trans hF.size hb78
     refine ZsS sz39 (lnE.all _) B77 (lnE.size _) (lnE.size _) fun w79 hO80 hBq => ?_
     replace B77 := hBq
     clear hBq
     refine Za ?_
     refine Znn ?_
     refine Zsr ?_
     refine Zm ?_
     replace Hd := (Hd.new hN76).only hO80 (ne1P ap_Fpd_b74)
     refine Zk cf33 (u_given Hd) ?_
     rintro v w81 ⟨rfl, hN82⟩
     refine Zm ?_
     refine Zt ?_
     refine Zt ?_
     refine Zna (z := zv1) (cs := lnE.arr ln0) (by kernel_rfl) fun b83 w84 hN85 B86 hb87 => ?_
     replace Hd := Hd.new hN82
     have ap_Fpd_b83 : ¬ Fpd b83 := Hd.apart hb87
     replace He := ((He.new hN76).only hO80 (ne1P ap_Fpe_b74)).new hN82
     have ap_Fpe_b83 : ¬ Fpe b83 := He.apart hb87
     replace B77 := B77.new hN82
     have ne_b74_b83 : NE b74 b83 := NE.mk (Nat.lt_of_lt_of_le B77.lt hb87)
     replace hF := ((hF.trNew hN76).loc hO80 (.inr g_b74)).trNew hN82
     have g_b83 := Nat.le_trans hF.size hb87
     refine ZsS sz39 (lnE.all _) B86 (lnE.size _) (lnE.size _) fun w88 hO89 hBq => ?_
     replace B86 := hBq
     clear hBq
     refine Za ?_
     refine Znn ?_
     refine Zsr ?_
     refine Zm ?_
     replace He := (He.new hN85).only hO89 (ne1P ap_Fpe_b83)
     refine Zk cf30 (u_lines He) ?_
     rintro v w94 ⟨A90, cap91, rfl, O92, hA93, hN95⟩
     refine Zm ?_
     replace Hd := ((Hd.new hN85).only hO89 (ne1P ap_Fpd_b83)).new hN95
     refine Zk cf30 (u_lines Hd) ?_
     rintro v w100 ⟨A96, cap97, rfl, O98, hA99, hN101⟩
     replace O92 := O92.new hN101
     refine Zk cf31 (rsame_c (la := (allL (stepsF (stepsF ⟨1, n, ways, [], none, none⟩ l) m).n (stepsF (stepsF ⟨1, n, ways, [], none, none⟩ l) m).L)) (lb := (allL (stepsF (stepsF ⟨1, n, ways, [], none, none⟩ l) m).n (stepsF (stepsF ⟨1, n, ways, [], none, none⟩ l) m).L)) (O92.view) (O98.view)) ?_
     rintro v w102 ⟨rfl, hN103⟩
     intro a fr
     rw [show decide ((allL (stepsF (stepsF ⟨1, n, ways, [], none, none⟩ l) m).n (stepsF (stepsF ⟨1, n, ways, [], none, none⟩ l) m).L) = (allL (stepsF (stepsF ⟨1, n, ways, [], none, none⟩ l) m).n (stepsF (stepsF ⟨1, n, ways, [], none, none⟩ l) m).L)) = true from decide_eq_true rfl] at fr
     revert a
     refine Zm ?_
     refine Zm ?_
     refine Zm ?_
     refine Zv (.bool true) (fun _ fr => x_eql rfl (fr.ev rfl) (fr.ev rfl) (by simp)) ?_
     refine Zpt ?_
     refine Zm ?_
     refine Zm ?_
     refine Zm ?_
     refine Zv (.bool true) (fun _ fr => x_beql Try.underlying4 rfl (fr.ev rfl) (fr.ev rfl) (by simp)) ?_
     refine Zpt ?_
     refine Zm ?_
     refine Zm ?_
     refine Zm ?_
     refine Zv (.bool true) (fun _ fr => x_beql Try.underlying4 rfl (fr.ev rfl) (fr.ev rfl) (by simp)) ?_
     refine Zpt ?_
     refine Zm ?_
     replace B77 := ((((B77.new hN85).only hO89 ne_b74_b83).new hN95).new hN101).new hN103
     refine ZE lnE ag39 (B77.rangeE lnE) ?_
     replace B86 := ((B86.new hN95).new hN101).new hN103
     refine ZE lnE ag39 (B86.rangeE lnE) ?_
     refine Zv (.bool true) (fun _ fr => x_eqE lnER rfl rfl (fr.ev rfl) (fr.ev rfl) (by simp)) ?_
     refine Zpt ?_
     refine Zm ?_
     refine Zm ?_
     refine Zm ?_
     refine Zv (.bool true) (fun _ fr => x_beql Try.underlying4 rfl (fr.ev rfl) (fr.ev rfl) (by simp)) ?_
     refine Zpt ?_
     refine Zm ?_
     refine Zk cf11 (known_c _) ?_
     rintro v w104 ⟨rfl, hN105⟩
     refine Zpt ?_
     refine Za ?_
     refine Znn ?_
     refine Zrt ?_
     refine Zre rfl [_] ⟨rfl, trivial⟩ ?_
     replace hF := (((((hF.trNew hN85).loc hO89 (.inr g_b83)).trNew hN95).trNew hN101).trNew hN103).trNew hN105
     exact ⟨_, rfl, rfl, hF⟩
end Go.Proofs.Ytflnlmibkbojcaa
namespace Go.Proofs.Ytflnlmibkbojcaa
open Go.RowKit Go.ChangeShapes Go.WideShapes Go.ChangeAt Go.Deep
section
variable {H : Type} {enc : TypeId × Value → H} {P : Program} {w : World} {base : Nat} {spare : Nat → Bool} {held : Bool} {fuel : Nat} {cs : List Value} {x : DataW H × List MemPlace}
theorem piece {q n : Nat} {a b : List Value} (h1 : (cs.drop q).take n = a) (h2 : cs.drop (q + n) = b) : cs.drop q = a ++ b := by
  rw [← h1, ← h2, ← List.drop_drop, List.take_append_drop]
theorem trod_ints {t e n : Nat} {k : IntKind} (ht : P.underlying t = some (.array n e)) (he : P.underlying e = some (.int k)) (hC : P.cellsOf e = 1) (hCt : P.cellsOf t = n) (h : DataW.trod enc P w base spare held fuel t cs = some x) :
    ∃ l : List Int, l.length = n ∧ cs = l.map (Value.int k) ∧ ∀ a ∈ l, (Lit.int k a).wf = true := by
  obtain ⟨xs, m, _, _, hl, hxl, hi⟩ := DataW.trod_array ht h
  rw [hC] at hi
  rw [hCt] at hl
  have hb : ∀ i, (h : i < cs.length) → ∃ a : Int, cs[i] = .int k a ∧ (Lit.int k a).wf = true := by
    intro i h
    have h2 := hi i (by omega)
    have e1 : (cs.drop (i * 1)).take 1 = [cs[i]] := by
      rw [Nat.mul_one, List.drop_eq_getElem_cons h]
      rfl
    rw [e1, List.getElem?_eq_getElem (show i < xs.length by omega)] at h2
    obtain ⟨a, e0, _, wa⟩ := DataW.trod_int he h2
    exact ⟨a, by simpa using e0, wa⟩
  obtain ⟨f, hf⟩ : ∃ f : (i : Fin cs.length) → Int, ∀ i : Fin cs.length, cs[i.1] = .int k (f i) ∧ (Lit.int k (f i)).wf = true := ⟨fun i => (hb i i.2).choose, fun i => (hb i i.2).choose_spec⟩
  refine ⟨List.ofFn f, by simp [hl], ?_, ?_⟩
  · apply List.ext_getElem
    · simp
    · intro i h1 h2
      rw [(hf ⟨i, h1⟩).1]
      simp
  · intro a ha
    obtain ⟨i, rfl⟩ := List.mem_ofFn.1 ha
    exact (hf i).2
theorem has_addr {r : Reach} {a : Addr} {e n : Nat} (h : w.has P r base a e n) : ∃ g o, a = ⟨g, o, none⟩ ∧ g < w.heap.size := by
  obtain ⟨_, h1, row, cells, h2, _⟩ := h
  obtain ⟨g, o, s⟩ := a
  subst h1
  refine ⟨g, o, rfl, ?_⟩
  unfold World.shape? at h2
  rcases Nat.lt_or_ge g w.heap.size with h | h
  · exact h
  · have : w.heap[g]? = none := Array.getElem?_eq_none h
    simp [this] at h2
theorem add_none (g o i : Nat) : (⟨g, o, none⟩ : Addr).add i = ⟨g, o + i, none⟩ := by
  unfold Addr.add
  by_cases h : i = 0 <;> simp [h]
theorem open_recs {α : Type} [DecidableEq α] {E : Enc P α} {OK : α → Prop} {t : TypeId} {r : Reach} {b0 : Nat} {v : Value} {d : DataW H} {p : List MemPlace} (ht : P.underlying t = some (.slice E.T)) (hC : P.cellsOf E.T = E.n)
    (hel : ∀ fuel cs x, DataW.trod enc P w base (fun _ => true) held fuel E.T cs = some x → ∃ m, OK m ∧ cs = E.cells m) (hv : Value.okWide P w r b0 t v) (h : DataW.Trod enc P w base (fun _ => true) held t v d p) :
    ∃ A cap l, v = .slice A l.length cap ∧ View E w A cap l ∧ ∀ m ∈ l, OK m := by
  obtain ⟨a0, len, cap, rfl⟩ := okWide_slice ht hv
  obtain ⟨fuel, hf⟩ := h
  rcases open_slice ht hf with ⟨hcs, _⟩ | ⟨a, l, c, m, n, D, Pl, hcs, _, hl, hm, hz, _, hcell⟩
  · simp [Value.cells] at hcs
    obtain ⟨rfl, rfl, rfl⟩ := hcs
    exact ⟨none, 0, [], rfl, View.nil, by simp⟩
  · simp [Value.cells] at hcs
    obtain ⟨rfl, rfl, rfl⟩ := hcs
    rw [if_pos rfl] at hz
    subst hz
    have hh : w.has P r b0 a E.T m := by
      unfold Value.okWide at hv
      rw [ht] at hv
      simp only [Cell.okWide, ht, Cell.ok] at hv
      exact hv.2.2
    obtain ⟨g, o, rfl, hg⟩ := has_addr hh
    rw [hC] at hcell
    have hb : ∀ i : Fin len, ∃ q : α, OK q ∧ w.rangeAt g (o + i.1 * E.n) (E.cells q) := by
      intro i
      obtain ⟨cs', h1, h2⟩ := hcell i.1 (by omega)
      obtain ⟨q, hq, rfl⟩ := hel _ _ _ h2
      obtain ⟨_, hcl, hat⟩ := World.cells?_some h1
      refine ⟨q, hq, fun j v hj => ?_⟩
      have hjl := (List.getElem?_eq_some_iff.1 hj).1
      have := hat j (by omega)
      rw [add_none, add_none] at this
      rw [this, hj]
    obtain ⟨f, hf⟩ : ∃ f : Fin len → α, ∀ i, OK (f i) ∧ w.rangeAt g (o + i.1 * E.n) (E.cells (f i)) := ⟨fun i => (hb i).choose, fun i => (hb i).choose_spec⟩
    refine ⟨some ⟨g, o, none⟩, m, List.ofFn f, by simp, ⟨by simp; omega, hm, .inr ⟨g, o, rfl, hg, fun j v hj => ?_⟩⟩, ?_⟩
    · have hjl := (List.getElem?_eq_some_iff.1 hj).1
      rw [flat_len, List.length_ofFn] at hjl
      have hn := E.pos
      have hq : j / E.n < len := (Nat.div_lt_iff_lt_mul hn).2 hjl
      have hr : j % E.n < E.n := Nat.mod_lt _ hn
      have hj2 : j / E.n * E.n + j % E.n = j := by rw [Nat.mul_comm]; exact Nat.div_add_mod j E.n
      have e1 := flat_drop (E := E) (List.ofFn f) (j / E.n) (by simpa using hq)
      have e2 : (E.cells (f ⟨j / E.n, hq⟩))[j % E.n]? = some v := by
        rw [List.getElem_ofFn] at e1
        rw [← e1, List.getElem?_take, if_pos hr, List.getElem?_drop, hj2]
        exact hj
      have := (hf ⟨j / E.n, hq⟩).2 (j % E.n) v e2
      rw [← this]
      show _ = w.cell? ⟨g, o + j / E.n * E.n + j % E.n, none⟩
      rw [Nat.add_assoc, hj2]
    · intro q hq
      obtain ⟨i, rfl⟩ := List.mem_ofFn.1 hq
      exact (hf i).1
theorem open_rec {α : Type} [DecidableEq α] {E : Enc P α} {OK : α → Prop} {fs : Array Field} {r : Reach} {b0 : Nat} {v : Value} {d : DataW H} {p : List MemPlace} (ht : P.underlying E.T = some (.struct fs))
    (hel : ∀ fuel cs x, DataW.trod enc P w base (fun _ => true) held fuel E.T cs = some x → ∃ m, OK m ∧ cs = E.cells m) (hv : Value.okWide P w r b0 E.T v) (h : DataW.Trod enc P w base (fun _ => true) held E.T v d p) :
    ∃ m, OK m ∧ v = .agg (E.arr m) := by
  obtain ⟨cs, rfl, hsz⟩ := okWide_struct ht hv
  obtain ⟨fuel, hf⟩ := h
  obtain ⟨m, hm, hc⟩ := hel _ _ _ hf
  refine ⟨m, hm, congrArg Value.agg ?_⟩
  have : cs.toList = E.cells m := hc
  apply Array.toList_inj.1
  rw [this, E.toList]
end
end Go.Proofs.Ytflnlmibkbojcaa
namespace Go.Proofs.Ytflnlmibkbojcaa
open Go.RowKit Go.ChangeShapes Go.WideShapes Go.ChangeAt
section
variable {H : Type} {enc : TypeId × Value → H} {w : World} {base : Nat} {spare : Nat → Bool} {held : Bool} {fuel : Nat} {cs : List Value} {x : DataW H × List MemPlace}
theorem cellsMSG : Try.prog.cellsOf 35 = 20 := by kernel_rfl
theorem cellsSTEP : Try.prog.cellsOf 45 = 27 := by kernel_rfl
theorem cellsFORM : Try.prog.cellsOf 55 = 2 := by kernel_rfl
theorem cellsKIND : Try.prog.cellsOf 33 = 1 := by kernel_rfl
theorem cellsBOOL : Try.prog.cellsOf 4 = 1 := by kernel_rfl
theorem cellsU32 : Try.prog.cellsOf 32 = 1 := by kernel_rfl
theorem cellsARR : Try.prog.cellsOf 22 = 16 := by kernel_rfl
theorem cellsU8 : Try.prog.cellsOf 5 = 1 := by kernel_rfl
theorem cellsI64 : Try.prog.cellsOf 3 = 1 := by kernel_rfl
theorem wf_u32 {a : Int} (h : (Lit.int .u32 a).wf = true) : 0 ≤ a ∧ a < 4294967296 := by
  simp [Lit.wf, IntKind.min, IntKind.max, IntKind.signed, IntKind.bits] at h
  omega
theorem wf_u8 {a : Int} (h : (Lit.int .u8 a).wf = true) : 0 ≤ a ∧ a < 256 := by
  simp [Lit.wf, IntKind.min, IntKind.max, IntKind.signed, IntKind.bits] at h
  omega
theorem trod_msg (h : DataW.trod enc Try.prog w base spare held fuel 35 cs = some x) : ∃ m : Msg, True ∧ cs = m.cells := by
  obtain ⟨xs, n, _, _, hl, hlen, hg⟩ := DataW.trod_struct Try.underlying35 h
  rw [cellsMSG] at hl
  match xs, hlen with
  | [y0, y1, y2, y3, y4], _ =>
    have h0 : DataW.trod enc Try.prog w base spare held n 33 ((cs.drop 0).take (Try.prog.cellsOf 33)) = some y0 := hg 0 _ rfl
    rw [cellsKIND] at h0
    have h1 : DataW.trod enc Try.prog w base spare held n 3 ((cs.drop 1).take (Try.prog.cellsOf 3)) = some y1 := hg 1 _ rfl
    rw [cellsI64] at h1
    have h2 : DataW.trod enc Try.prog w base spare held n 3 ((cs.drop 2).take (Try.prog.cellsOf 3)) = some y2 := hg 2 _ rfl
    rw [cellsI64] at h2
    have h3 : DataW.trod enc Try.prog w base spare held n 32 ((cs.drop 3).take (Try.prog.cellsOf 32)) = some y3 := hg 3 _ rfl
    rw [cellsU32] at h3
    have h4 : DataW.trod enc Try.prog w base spare held n 22 ((cs.drop 4).take (Try.prog.cellsOf 22)) = some y4 := hg 4 _ rfl
    rw [cellsARR] at h4
    obtain ⟨a0, e0, _⟩ := DataW.trod_int Try.underlying33 h0
    obtain ⟨a1, e1, _⟩ := DataW.trod_int Try.underlying3 h1
    obtain ⟨a2, e2, _⟩ := DataW.trod_int Try.underlying3 h2
    obtain ⟨a3, e3, _, w3⟩ := DataW.trod_int Try.underlying32 h3
    obtain ⟨l, hll, e4, hw⟩ := trod_ints Try.underlying22 Try.underlying5 cellsU8 cellsARR h4
    refine ⟨⟨a0, a1, a2, a3, ⟨l, hll, fun a ha => wf_u8 (hw a ha)⟩, wf_u32 w3⟩, trivial, ?_⟩
    have p5 : cs.drop 20 = [] := List.drop_eq_nil_of_le (by omega)
    have p4 := piece e4 p5
    have p3 := piece e3 p4
    have p2 := piece e2 p3
    have p1 := piece e1 p2
    have p0 := piece e0 p1
    rw [List.drop_zero] at p0
    rw [p0]
    simp [Msg.cells]
theorem trod_stp (h : DataW.trod enc Try.prog w base spare held fuel 45 cs = some x) : ∃ m : Stp, True ∧ cs = m.cells := by
  obtain ⟨xs, n, _, _, hl, hlen, hg⟩ := DataW.trod_struct Try.underlying45 h
  rw [cellsSTEP] at hl
  match xs, hlen with
  | [y0, y1, y2, y3, y4, y5, y6, y7], _ =>
    have h0 : DataW.trod enc Try.prog w base spare held n 3 ((cs.drop 0).take (Try.prog.cellsOf 3)) = some y0 := hg 0 _ rfl
    rw [cellsI64] at h0
    have h1 : DataW.trod enc Try.prog w base spare held n 3 ((cs.drop 1).take (Try.prog.cellsOf 3)) = some y1 := hg 1 _ rfl
    rw [cellsI64] at h1
    have h2 : DataW.trod enc Try.prog w base spare held n 3 ((cs.drop 2).take (Try.prog.cellsOf 3)) = some y2 := hg 2 _ rfl
    rw [cellsI64] at h2
    have h3 : DataW.trod enc Try.prog w base spare held n 32 ((cs.drop 3).take (Try.prog.cellsOf 32)) = some y3 := hg 3 _ rfl
    rw [cellsU32] at h3
    have h4 : DataW.trod enc Try.prog w base spare held n 32 ((cs.drop 4).take (Try.prog.cellsOf 32)) = some y4 := hg 4 _ rfl
    rw [cellsU32] at h4
    have h5 : DataW.trod enc Try.prog w base spare held n 32 ((cs.drop 5).take (Try.prog.cellsOf 32)) = some y5 := hg 5 _ rfl
    rw [cellsU32] at h5
    have h6 : DataW.trod enc Try.prog w base spare held n 4 ((cs.drop 6).take (Try.prog.cellsOf 4)) = some y6 := hg 6 _ rfl
    rw [cellsBOOL] at h6
    have h7 : DataW.trod enc Try.prog w base spare held n 35 ((cs.drop 7).take (Try.prog.cellsOf 35)) = some y7 := hg 7 _ rfl
    rw [cellsMSG] at h7
    obtain ⟨a0, e0, _⟩ := DataW.trod_int Try.underlying3 h0
    obtain ⟨a1, e1, _⟩ := DataW.trod_int Try.underlying3 h1
    obtain ⟨a2, e2, _⟩ := DataW.trod_int Try.underlying3 h2
    obtain ⟨a3, e3, _, w3⟩ := DataW.trod_int Try.underlying32 h3
    obtain ⟨a4, e4, _, w4⟩ := DataW.trod_int Try.underlying32 h4
    obtain ⟨a5, e5, _, w5⟩ := DataW.trod_int Try.underlying32 h5
    obtain ⟨a6, e6, _⟩ := DataW.trod_bool Try.underlying4 h6
    obtain ⟨m7, -, e7⟩ := trod_msg h7
    refine ⟨⟨a0, a1, a2, a3, a4, a5, a6, m7, wf_u32 w3, wf_u32 w4, wf_u32 w5⟩, trivial, ?_⟩
    have p8 : cs.drop 27 = [] := List.drop_eq_nil_of_le (by omega)
    have p7 := piece e7 p8
    have p6 := piece e6 p7
    have p5 := piece e5 p6
    have p4 := piece e4 p5
    have p3 := piece e3 p4
    have p2 := piece e2 p3
    have p1 := piece e1 p2
    have p0 := piece e0 p1
    rw [List.drop_zero] at p0
    rw [p0]
    simp [Stp.cells]
structure Frm where
  sets : Int
  ways : Int
  deriving DecidableEq
def Frm.cells (q : Frm) : List Value := [.int .i64 q.sets, .int .i64 q.ways]
def frmE : Enc Try.prog Frm where
  T := 55
  n := 2
  cells := Frm.cells
  len := fun q => rfl
  one := fun q v hv => by
    simp only [Frm.cells, List.mem_cons, List.mem_nil_iff, or_false] at hv
    rcases hv with rfl | rfl <;> rfl
  pos := by decide
theorem trod_frm (h : DataW.trod enc Try.prog w base spare held fuel 55 cs = some x) : ∃ m : Frm, True ∧ cs = m.cells := by
  obtain ⟨xs, n, _, _, hl, hlen, hg⟩ := DataW.trod_struct Try.underlying55 h
  rw [cellsFORM] at hl
  match xs, hlen with
  | [y0, y1], _ =>
    have h0 : DataW.trod enc Try.prog w base spare held n 3 ((cs.drop 0).take (Try.prog.cellsOf 3)) = some y0 := hg 0 _ rfl
    rw [cellsI64] at h0
    have h1 : DataW.trod enc Try.prog w base spare held n 3 ((cs.drop 1).take (Try.prog.cellsOf 3)) = some y1 := hg 1 _ rfl
    rw [cellsI64] at h1
    obtain ⟨a0, e0, _⟩ := DataW.trod_int Try.underlying3 h0
    obtain ⟨a1, e1, _⟩ := DataW.trod_int Try.underlying3 h1
    refine ⟨⟨a0, a1⟩, trivial, ?_⟩
    have p2 : cs.drop 2 = [] := List.drop_eq_nil_of_le (by omega)
    have p1 := piece e1 p2
    have p0 := piece e0 p1
    rw [List.drop_zero] at p0
    rw [p0]
    simp [Frm.cells]
set_option maxRecDepth 100000 in
theorem open_frm {r : Reach} {b0 : Nat} {v : Value} {d : DataW H} {p : List MemPlace} (hv : Value.okWide Try.prog w r b0 55 v) (h : DataW.Trod enc Try.prog w base (fun _ => true) held 55 v d p) : ∃ m : Frm, True ∧ v = .agg (frmE.arr m) :=
  open_rec (E := frmE) (OK := fun _ => True) Try.underlying55 (fun _ _ _ => trod_frm) hv h
def StpsArg (w : World) (v : Value) : Prop := ∃ A cap l, v = .slice A l.length cap ∧ View stpE w A cap l
set_option maxRecDepth 100000 in
theorem open_stps {r : Reach} {b0 : Nat} {v : Value} {d : DataW H} {p : List MemPlace} (hv : Value.okWide Try.prog w r b0 23 v) (h : DataW.Trod enc Try.prog w base (fun _ => true) held 23 v d p) : StpsArg w v := by
  obtain ⟨A, cap, l, h1, h2, _⟩ := open_recs (E := stpE) (OK := fun _ => True) Try.underlying23 cellsSTEP (fun _ _ _ => trod_stp) hv h
  exact ⟨A, cap, l, h1, h2⟩
theorem right_nat {a b : Int} (h : rightB a b = true) : ∃ n : Nat, a = (n : Int) := ⟨a.toNat, by have := right_yes h; omega⟩
end
end Go.Proofs.Ytflnlmibkbojcaa
namespace Go.Proofs.Ytflnlmibkbojcaa
open Go.RowKit
set_option linter.unusedVariables false
theorem walk_CacheCopies (w : World) (v0 : Value) (hv0 : ∃ m : Frm, True ∧ v0 = .agg (frmE.arr m)) (v1 : Value) (hv1 : StpsArg w v1) (v2 : Value) (hv2 : StpsArg w v2) : Calls Try.prog 7 #[v0, v1, v2] w fun e w' => e = .returned (.bool true) ∧ Below w.heap.size w w' := by
  obtain ⟨m0, -, rfl⟩ := hv0
  obtain ⟨A1, c1, l1, rfl, hv1⟩ := hv1
  obtain ⟨A2, c2, l2, rfl, hv2⟩ := hv2
  obtain ⟨sets, ways⟩ := m0
  cases hr : rightB sets ways with
  | false =>
    refine (copies_no sets ways hr hv1 hv2).mono ?_
    rintro e w' ⟨v, rfl, rfl, hn⟩
    exact ⟨rfl, hn.nb⟩
  | true =>
    obtain ⟨n, rfl⟩ := right_nat hr
    refine (copies_yes n ways hr hv1 hv2).mono ?_
    rintro e w' ⟨v, rfl, rfl, hn⟩
    exact ⟨rfl, hn.nb⟩
end Go.Proofs.Ytflnlmibkbojcaa
